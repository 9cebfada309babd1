/- Frame: Enter into the law's outer function, on the abstract machine. -/
import Derived.Test.YtckahbnkdiamjaaFrProg
namespace Go.Proofs.Ytckahbnkdiamjaa
open Go.RowKit
set_option linter.unusedSimpArgs false
set_option linter.unusedVariables false
set_option maxRecDepth 100000

section
variable {O : Helps} {n : Nat} {o : Tr AObj} {nx : Nat} {lg : List Nat} {w : Nat → Nat} {B : HB} {hs : HS} {kp kb ks : Nat} {bx : List Bool} {ups : Value}
theorem sl26 : ∀ j H, aSlice Try.prog 26 (.slice (some ⟨j, 0, none⟩) 5 6) none (some (.int .i64 0)) none H = some (.slice (some ⟨j, 0, none⟩) 0 6) := fun j H => by kernel_rfl
theorem cp26 : ∀ j H, aCopy Try.prog 26 (.slice (some ⟨j, 0, none⟩) 0 6) (.slice none 0 0) H = some (.int .i64 0, H) := fun j H => by kernel_rfl
theorem ms26 : ∀ fid H, aMakeSlice Try.prog 26 (.int .i64 5) (.int .i64 5) fid H = some (.slice (some ⟨fid, 0, none⟩) 5 6, newRowA fid [.int .u8 0, .int .i64 0, .int .u8 0, .int .i64 0, .int .u8 0, .int .i64 0, .int .u8 0, .int .i64 0, .int .u8 0, .int .i64 0] 41 2 H) := fun fid H => by kernel_rfl
def EnterTo (o : Tr AObj) (nx : Nat) (lg : List Nat) (cl : Int) (r : Value × AHeap) : Prop :=
  ∃ o' nx' sa c, r = (.tuple #[frV cl sa c, .int .i64 0], ⟨o', nx', lg⟩) ∧ nx ≤ nx' ∧ nx ≤ sa ∧ sa < nx' ∧ o'.get sa = some (.row (vvCells [(0, 0), (0, 0), (0, 0), (0, 0), (0, 0)]) 41 2 true) ∧ ∀ x, x < nx → o'.get x = o.get x
set_option maxHeartbeats 32000000 in
theorem fenter_ok (hO : Clear O) (hh : HeapIn o nx w B hs) (h : ProgIn o nx kp kb ks bx ups) (v : VV) (hp : protoO hs v = (0, true)) (hu : hs.pool.used ≤ hs.max) (hu0 : 0 ≤ hs.pool.used) (hm : hs.max ≤ 16777216) :
    Got (oCall Try.prog [] O (n + 8) 21 [pV kp, .pointer (some ⟨B.i, 0, none⟩), .agg #[.int .u8 v.1, .int .i64 v.2], .slice none 0 0] ⟨o, nx, lg⟩) (EnterTo o nx lg v.2) := by
  have hrow := h.row
  have hltp := h.ltp
  have hltb := h.ltb
  obtain ⟨restb, hbr⟩ := h.bxr
  have hPr := fun (O1 : Tr AObj) (N1 : Nat) (L1 : List Nat) (hN : nx ≤ N1) (hold : ∀ x, x < nx → O1.get x = o.get x) => proto_ok (n := n + 3) (o := O1) (nx := N1) (lg := L1) hO (hh.more hN hold) v
  have hUs := fun (O1 : Tr AObj) (N1 : Nat) (L1 : List Nat) (hN : nx ≤ N1) (hold : ∀ x, x < nx → O1.get x = o.get x) => used_ok (n := n + 4) (o := O1) (nx := N1) (lg := L1) hO (hh.more hN hold)
  have hMx := fun (O1 : Tr AObj) (N1 : Nat) (L1 : List Nat) (hN : nx ≤ N1) (hold : ∀ x, x < nx → O1.get x = o.get x) => max_ok (n := n + 5) (o := O1) (nx := N1) (lg := L1) hO (hh.more hN hold)
  rw [hp] at hPr
  rw [y_fn (rs := [.cell 8 29, .tmp 9]) (hO _ (by decide)) Try.func21 rfl (by kernel_rfl) rfl rfl]
  repeat (first | with_reducible (first | refine n_on ?_ | refine n_seq ?_ | refine s_else ?_ | refine n_t ?_ | refine n_gt ?_ | refine d_t ?_ | refine n_nil ?_ | refine d_nil ?_ | refine n_block ?_ | refine n_skip ?_ | refine n_bon ?_ | refine n_bback ?_ | refine n_back ?_ | refine n_out ?_ | refine n_bout rfl ?_ | refine n_bfar rfl ?_ | refine n_ret ?_ | refine n_exit ?_ | refine n_label ?_ | refine n_scope ?_ | refine n_son ?_ | refine n_sback ?_) | (with_reducible (first | apply n_region | apply d_region); (simp only [JV, JU, JW, Nat.reduceAdd, Nat.zero_add]; exact rfl)) | (with_reducible (first | apply s_op | apply n_guard | apply n_cond | apply d_guard | apply d_op | apply n_fin | apply n_finb); (simp (maxDischargeDepth := 6) only [sy3.1, zY, qG, qP, qQ, qR, qS, qT, rowAt, ↓jg, ↓ji, Nat.reduceAdd, Nat.reduceEqDiff, ne_eq, jG, Nat.reduceLT, if_true, ite_true, Int.reduceLE, Int.reduceLT, Int.reduceEq, Int.reduceNeg, Int.reduceAdd, Nat.reduceSub, if_false, ite_false, fs_21.1, pV, vv, kind_pure, kind_load, kind_fresh, kind_other, jg, ji, undef]; first | exact rfl | exact ⟨rfl, rfl, rfl, rfl⟩); try (with_reducible refine calmK_in ?_; decide +kernel)))
  refine s_do _ (by
    simp (maxDischargeDepth := 6) only [sy3.1, zY, qG, qP, qQ, qR, qS, qT, rowAt, ↓jg, ↓ji, Nat.reduceAdd, Nat.reduceEqDiff, ne_eq, jG, Nat.reduceLT, if_true, ite_true, Int.reduceLE, Int.reduceLT, Int.reduceEq, Int.reduceNeg, Int.reduceAdd, Nat.reduceSub, if_false, ite_false, fs_21.1]
    exact got_eq (hPr _ _ _ (by omega) fun x hx => by (repeat (first | rw [qE] | rw [qF _ _ _ _ (by omega)])))) ?_
  rintro _ _ heq
  cases heq
  have l1 : decide (Int.ofNat 2 ≤ 0) = false := by decide
  have l3 : Nat.blt 0 2 = true := rfl
  have l4 : decide (Int.ofNat 5 = 5) = true := by decide
  have l5 : decide ((5 : Int) < 0) = false := by decide
  have hst := fun (o : Tr AObj) (nx : Nat) (lg : List Nat) (hg : o.get kb = some (.row (bx.map Value.bool ++ restb) 4 1 true)) => slice_to (P := Try.prog) (H := ⟨o, nx, lg⟩) (t := 69) (e := 1) (by kernel_rfl) hg (show 0 ≤ 5 from by decide) (k := .i64) (o := 0)
  have e0 : Int.ofNat 0 = 0 := rfl
  rw [e0] at hst
  repeat (first | with_reducible (first | refine n_on ?_ | refine n_seq ?_ | refine s_else ?_ | refine n_t ?_ | refine n_gt ?_ | refine d_t ?_ | refine n_nil ?_ | refine d_nil ?_ | refine n_block ?_ | refine n_skip ?_ | refine n_bon ?_ | refine n_bback ?_ | refine n_back ?_ | refine n_out ?_ | refine n_bout rfl ?_ | refine n_bfar rfl ?_ | refine n_ret ?_ | refine n_exit ?_ | refine n_label ?_ | refine n_scope ?_ | refine n_son ?_ | refine n_sback ?_) | (with_reducible (first | apply n_region | apply d_region); (simp only [JV, JU, JW, Nat.reduceAdd, Nat.zero_add]; exact rfl)) | (with_reducible (first | apply s_op | apply n_guard | apply n_cond | apply d_guard | apply d_op | apply n_fin | apply n_finb); (simp (maxDischargeDepth := 6) only [sy3.1, zY, qG, qP, qQ, qR, qS, qT, rowAt, ↓jg, ↓ji, Nat.reduceAdd, Nat.reduceEqDiff, ne_eq, jG, Nat.reduceLT, if_true, ite_true, Int.reduceLE, Int.reduceLT, Int.reduceEq, Int.reduceNeg, Int.reduceAdd, Nat.reduceSub, if_false, ite_false, fs_21.1, pV, vv, hrow, hltp, hltb, hbr, hst, l1, l3, l4, indexAt, Option.isNone_none, Nat.zero_mul, kind_pure, kind_load, kind_fresh, kind_other, jg, ji, undef]; first | exact rfl | exact ⟨rfl, rfl, rfl, rfl⟩); try (with_reducible refine calmK_in ?_; decide +kernel)))
  have l6 : decide ((0 : Int) < Int.ofNat 0) = false := by decide
  have hw0 : IntKind.i64.wrap (hs.pool.used + 0) = hs.pool.used := by rw [Int.add_zero]; exact wrap_small _ hu0 (by omega)
  have hd : decide (hs.max < hs.pool.used) = false := decide_eq_false (by omega)
  rw [y_loop_eq]
  refine y_round ?_
  repeat (first | with_reducible (first | refine n_on ?_ | refine n_seq ?_ | refine s_else ?_ | refine n_t ?_ | refine n_gt ?_ | refine d_t ?_ | refine n_nil ?_ | refine d_nil ?_ | refine n_block ?_ | refine n_skip ?_ | refine n_bon ?_ | refine n_bback ?_ | refine n_back ?_ | refine n_out ?_ | refine n_bout rfl ?_ | refine n_bfar rfl ?_ | refine n_ret ?_ | refine n_exit ?_ | refine n_label ?_ | refine n_scope ?_ | refine n_son ?_ | refine n_sback ?_) | (with_reducible (first | apply n_region | apply d_region); (simp only [JV, JU, JW, Nat.reduceAdd, Nat.zero_add]; exact rfl)) | (with_reducible (first | apply s_op | apply n_guard | apply n_cond | apply d_guard | apply d_op | apply n_fin | apply n_finb); (simp (maxDischargeDepth := 6) only [sy3.1, zY, qG, qP, qQ, qR, qS, qT, rowAt, ↓jg, ↓ji, Nat.reduceAdd, Nat.reduceEqDiff, ne_eq, jG, Nat.reduceLT, if_true, ite_true, Int.reduceLE, Int.reduceLT, Int.reduceEq, Int.reduceNeg, Int.reduceAdd, Nat.reduceSub, if_false, ite_false, fs_21.1, l6, kind_pure, kind_load, kind_fresh, kind_other, jg, ji, undef]; first | exact rfl | exact ⟨rfl, rfl, rfl, rfl⟩); try (with_reducible refine calmK_in ?_; decide +kernel)))
  refine s_do _ (by
    simp (maxDischargeDepth := 6) only [sy3.1, zY, qG, qP, qQ, qR, qS, qT, rowAt, ↓jg, ↓ji, Nat.reduceAdd, Nat.reduceEqDiff, ne_eq, jG, Nat.reduceLT, if_true, ite_true, Int.reduceLE, Int.reduceLT, Int.reduceEq, Int.reduceNeg, Int.reduceAdd, Nat.reduceSub, if_false, ite_false, fs_21.1]
    exact got_eq (hUs _ _ _ (by omega) fun x hx => by (repeat (first | rw [qE] | rw [qF _ _ _ _ (by omega)])))) ?_
  rintro _ _ heq
  cases heq
  repeat (first | with_reducible (first | refine n_on ?_ | refine n_seq ?_ | refine s_else ?_ | refine n_t ?_ | refine n_gt ?_ | refine d_t ?_ | refine n_nil ?_ | refine d_nil ?_ | refine n_block ?_ | refine n_skip ?_ | refine n_bon ?_ | refine n_bback ?_ | refine n_back ?_ | refine n_out ?_ | refine n_bout rfl ?_ | refine n_bfar rfl ?_ | refine n_ret ?_ | refine n_exit ?_ | refine n_label ?_ | refine n_scope ?_ | refine n_son ?_ | refine n_sback ?_) | (with_reducible (first | apply n_region | apply d_region); (simp only [JV, JU, JW, Nat.reduceAdd, Nat.zero_add]; exact rfl)) | (with_reducible (first | apply s_op | apply n_guard | apply n_cond | apply d_guard | apply d_op | apply n_fin | apply n_finb); (simp (maxDischargeDepth := 6) only [sy3.1, zY, qG, qP, qQ, qR, qS, qT, rowAt, ↓jg, ↓ji, Nat.reduceAdd, Nat.reduceEqDiff, ne_eq, jG, Nat.reduceLT, if_true, ite_true, Int.reduceLE, Int.reduceLT, Int.reduceEq, Int.reduceNeg, Int.reduceAdd, Nat.reduceSub, if_false, ite_false, fs_21.1, hw0, kind_pure, kind_load, kind_fresh, kind_other, jg, ji, undef]; first | exact rfl | exact ⟨rfl, rfl, rfl, rfl⟩); try (with_reducible refine calmK_in ?_; decide +kernel)))
  refine s_do _ (by
    simp (maxDischargeDepth := 6) only [sy3.1, zY, qG, qP, qQ, qR, qS, qT, rowAt, ↓jg, ↓ji, Nat.reduceAdd, Nat.reduceEqDiff, ne_eq, jG, Nat.reduceLT, if_true, ite_true, Int.reduceLE, Int.reduceLT, Int.reduceEq, Int.reduceNeg, Int.reduceAdd, Nat.reduceSub, if_false, ite_false, fs_21.1]
    exact got_eq (hMx _ _ _ (by omega) fun x hx => by (repeat (first | rw [qE] | rw [qF _ _ _ _ (by omega)])))) ?_
  rintro _ _ heq
  cases heq
  repeat (first | with_reducible (first | refine n_on ?_ | refine n_seq ?_ | refine s_else ?_ | refine n_t ?_ | refine n_gt ?_ | refine d_t ?_ | refine n_nil ?_ | refine d_nil ?_ | refine n_block ?_ | refine n_skip ?_ | refine n_bon ?_ | refine n_bback ?_ | refine n_back ?_ | refine n_out ?_ | refine n_bout rfl ?_ | refine n_bfar rfl ?_ | refine n_ret ?_ | refine n_exit ?_ | refine n_label ?_ | refine n_scope ?_ | refine n_son ?_ | refine n_sback ?_) | (with_reducible (first | apply n_region | apply d_region); (simp only [JV, JU, JW, Nat.reduceAdd, Nat.zero_add]; exact rfl)) | (with_reducible (first | apply s_op | apply n_guard | apply n_cond | apply d_guard | apply d_op | apply n_fin | apply n_finb); (simp (maxDischargeDepth := 6) only [sy3.1, zY, qG, qP, qQ, qR, qS, qT, rowAt, ↓jg, ↓ji, Nat.reduceAdd, Nat.reduceEqDiff, ne_eq, jG, Nat.reduceLT, if_true, ite_true, Int.reduceLE, Int.reduceLT, Int.reduceEq, Int.reduceNeg, Int.reduceAdd, Nat.reduceSub, if_false, ite_false, fs_21.1, vv, hd, hrow, hltp, hltb, hbr, hst, st_makeSlice, st_copy, Jk, Jl, ms26, sl26, cp26, l4, Nat.zero_mul, kind_pure, kind_load, kind_fresh, kind_other, jg, ji, undef]; first | exact rfl | exact ⟨rfl, rfl, rfl, rfl⟩); try (with_reducible refine calmK_in ?_; decide +kernel)))
  rw [y_loop_eq]
  refine y_round ?_
  repeat (first | with_reducible (first | refine n_on ?_ | refine n_seq ?_ | refine s_else ?_ | refine n_t ?_ | refine n_gt ?_ | refine d_t ?_ | refine n_nil ?_ | refine d_nil ?_ | refine n_block ?_ | refine n_skip ?_ | refine n_bon ?_ | refine n_bback ?_ | refine n_back ?_ | refine n_out ?_ | refine n_bout rfl ?_ | refine n_bfar rfl ?_ | refine n_ret ?_ | refine n_exit ?_ | refine n_label ?_ | refine n_scope ?_ | refine n_son ?_ | refine n_sback ?_) | (with_reducible (first | apply n_region | apply d_region); (simp only [JV, JU, JW, Nat.reduceAdd, Nat.zero_add]; exact rfl)) | (with_reducible (first | apply s_op | apply n_guard | apply n_cond | apply d_guard | apply d_op | apply n_fin | apply n_finb); (simp (maxDischargeDepth := 6) only [sy3.1, zY, qG, qP, qQ, qR, qS, qT, rowAt, ↓jg, ↓ji, Nat.reduceAdd, Nat.reduceEqDiff, ne_eq, jG, Nat.reduceLT, if_true, ite_true, Int.reduceLE, Int.reduceLT, Int.reduceEq, Int.reduceNeg, Int.reduceAdd, Nat.reduceSub, if_false, ite_false, fs_21.1, hrow, hltp, l4, l6, cut_twelve, kind_pure, kind_load, kind_fresh, kind_other, jg, ji, undef]; first | exact rfl | exact ⟨rfl, rfl, rfl, rfl⟩); try (with_reducible refine calmK_in ?_; decide +kernel)))
  refine ⟨_, _, nx + 85, 6, leave_new (by simp only [all_relogL, js, ju, List.all_nil, jt, Bool.and_self]) ?_, by omega, by omega, by omega, ?_, fun x hx => ?_⟩
  · have : Nat.blt (nx + 85) nx = false := blt_new (by omega)
    simp only [lowV, low2, low1, List.all_cons, List.all_nil, this, Bool.false_and, Bool.true_and, Bool.and_true, Bool.and_false]
  · (repeat (first | rw [qE] | rw [qF _ _ _ _ (by omega)])); rfl
  · (repeat (first | rw [qE] | rw [qF _ _ _ _ (by omega)]))
end
end Go.Proofs.Ytckahbnkdiamjaa
