/- Frame: the reference's heap, as far as `both` runs it: Cell, and the things behind it. -/
import Derived.Test.YtckahbnkdiamjaaFrRef2
namespace Go.Proofs.Ytckahbnkdiamjaa
open Go.RowKit
set_option linter.unusedSimpArgs false
set_option linter.unusedVariables false
set_option maxRecDepth 100000

/-- the reference's heap with one cell -/
structure Ref1 (o : Tr AObj) (nx r : Nat) (m : Int) (s b : Nat) (v : VV) : Prop where
  ltr : r < nx
  lts : s < nx
  ltb : b < nx
  rs : r ≠ s
  rb : r ≠ b
  sb : s ≠ b
  row : o.get r = some (.row (rh1 m s) 119 0 true)
  list : o.get s = some (.row [.pointer (some ⟨b, 0, none⟩)] 111 1 true)
  obj : o.get b = some (.row (robj 9 1 v 0 (.slice none 0 0)) 116 0 true)
theorem Ref1.keep {o o' : Tr AObj} {nx nx' r s b : Nat} {m : Int} {v : VV} (h : Ref1 o nx r m s b v) (hn : nx ≤ nx') (h1 : o'.get r = o.get r) (h2 : o'.get s = o.get s) (h3 : o'.get b = o.get b) : Ref1 o' nx' r m s b v := by
  have a := h.ltr; have b := h.lts; have c := h.ltb
  exact ⟨by omega, by omega, by omega, h.rs, h.rb, h.sb, h1.trans h.row, h2.trans h.list, h3.trans h.obj⟩
def RefCell (o : Tr AObj) (nx : Nat) (lg : List Nat) (r : Nat) (m : Int) (v : VV) (q : Value × AHeap) : Prop :=
  ∃ o' nx' lg' s b, q = (.tuple #[.agg #[.int .u8 9, .int .i64 1], .int .i64 0], ⟨o', nx', lg'⟩) ∧ nx ≤ nx' ∧ Ref1 o' nx' r m s b v ∧ nx ≤ s ∧ nx ≤ b ∧ (∀ x, x < nx → x ≠ r → o'.get x = o.get x) ∧ (∀ y, y ∈ lg → y ∈ lg') ∧ r ∈ lg'
section
variable {O : Helps} {n : Nat} {o : Tr AObj} {nx : Nat} {lg : List Nat}
set_option maxHeartbeats 16000000 in
theorem rcell_ok (hO : Clear O) {r : Nat} {m : Int} (h : o.get r = some (.row (rh0 m) 119 0 true)) (hr : r < nx) (x : Int) (hm : 1 ≤ m) :
    Got (oCall Try.prog [] O (n + 4) 42 [.pointer (some ⟨r, 0, none⟩), .agg #[.int .u8 3, .int .i64 x]] ⟨o, nx, lg⟩) (RefCell o nx lg r m (3, x)) := by
  have hk := fun (o : Tr AObj) (nx : Nat) (lg : List Nat) => rkeep_ok (n := n) (o := o) (nx := nx) (lg := lg) hO r x
  rw [y_fn (rs := [.cell 4 41, .tmp 5]) (hO _ (by decide)) Try.func42 rfl (by kernel_rfl) rfl rfl]
  repeat (first | with_reducible (first | refine n_on ?_ | refine n_seq ?_ | refine s_else ?_ | refine n_t ?_ | refine n_gt ?_ | refine d_t ?_ | refine n_nil ?_ | refine d_nil ?_ | refine n_block ?_ | refine n_skip ?_ | refine n_bon ?_ | refine n_bback ?_ | refine n_back ?_ | refine n_out ?_ | refine n_bout rfl ?_ | refine n_bfar rfl ?_ | refine n_ret ?_ | refine n_exit ?_ | refine n_label ?_ | refine n_scope ?_ | refine n_son ?_ | refine n_sback ?_) | (with_reducible (first | apply n_region | apply d_region); (simp only [JV, JU, JW, Nat.reduceAdd, Nat.zero_add]; exact rfl)) | (with_reducible (first | apply s_op | apply n_guard | apply n_cond | apply d_guard | apply d_op | apply n_fin | apply n_finb); (simp (maxDischargeDepth := 6) only [sy3.1, zY, qG, qP, qQ, qR, qS, qT, rowAt, ↓jg, ↓ji, Nat.reduceAdd, Nat.reduceEqDiff, ne_eq, jG, Nat.reduceLT, if_true, ite_true, Int.reduceLE, Int.reduceLT, Int.reduceEq, Int.reduceNeg, Int.reduceAdd, Nat.reduceSub, if_false, ite_false, fs_42.1, hk, kind_pure, kind_load, kind_fresh, kind_other, jg, ji, undef]; first | exact rfl | exact ⟨rfl, rfl, rfl, rfl⟩); try (with_reducible refine calmK_in ?_; decide +kernel)))
  refine s_do _ (by
    simp (maxDischargeDepth := 6) only [sy3.1, zY, qG, qP, qQ, qR, qS, qT, rowAt, ↓jg, ↓ji, Nat.reduceAdd, Nat.reduceEqDiff, ne_eq, jG, Nat.reduceLT, if_true, ite_true, Int.reduceLE, Int.reduceLT, Int.reduceEq, Int.reduceNeg, Int.reduceAdd, Nat.reduceSub, if_false, ite_false, fs_42.1]
    exact radd0_ok (v := (3, x)) (p := 0) (cs := .slice none 0 0) (z := 0) (m := m) hO (by (repeat (first | rw [qE] | rw [qF _ _ _ _ (by omega)])); exact h) (by omega) (qE _ _ _) (by omega) (by omega) hm) ?_
  rintro v1 H1 ⟨o1, nx1, lg1, s, heq, hn1, hs1, hs2, hr1, hl1, hb1, hfr1, hmo1, hin1⟩
  cases heq
  have h4 : o1.get (nx + 1) = some (.row [.int .u8 0, .int .i64 0] 41 0 true) := by rw [hfr1 _ (by omega) (by omega) (by omega)]; (repeat (first | rw [qE] | rw [qF _ _ _ _ (by omega)]))
  repeat (first | with_reducible (first | refine n_on ?_ | refine n_seq ?_ | refine s_else ?_ | refine n_t ?_ | refine n_gt ?_ | refine d_t ?_ | refine n_nil ?_ | refine d_nil ?_ | refine n_block ?_ | refine n_skip ?_ | refine n_bon ?_ | refine n_bback ?_ | refine n_back ?_ | refine n_out ?_ | refine n_bout rfl ?_ | refine n_bfar rfl ?_ | refine n_ret ?_ | refine n_exit ?_ | refine n_label ?_ | refine n_scope ?_ | refine n_son ?_ | refine n_sback ?_) | (with_reducible (first | apply n_region | apply d_region); (simp only [JV, JU, JW, Nat.reduceAdd, Nat.zero_add]; exact rfl)) | (with_reducible (first | apply s_op | apply n_guard | apply n_cond | apply d_guard | apply d_op | apply n_fin | apply n_finb); (simp (maxDischargeDepth := 6) only [sy3.1, zY, qG, qP, qQ, qR, qS, qT, rowAt, ↓jg, ↓ji, Nat.reduceAdd, Nat.reduceEqDiff, ne_eq, jG, Nat.reduceLT, if_true, ite_true, Int.reduceLE, Int.reduceLT, Int.reduceEq, Int.reduceNeg, Int.reduceAdd, Nat.reduceSub, if_false, ite_false, fs_42.1, h4, kind_pure, kind_load, kind_fresh, kind_other, jg, ji, undef]; first | exact rfl | exact ⟨rfl, rfl, rfl, rfl⟩); try (with_reducible refine calmK_in ?_; decide +kernel)))
  refine loud_end (x := r) (by simp only [in_relogL, in_note, hin1, true_or, or_true]) hr fun l' hmo hin => ?_
  refine ⟨_, _, _, s, nx + 10, rfl, by omega, ⟨by omega, by omega, by omega, by omega, by omega, by omega, ?_, ?_, ?_⟩, by omega, by omega, fun x hx h1 => ?_, hmo, hin r (by simp only [in_relogL, in_note, hin1, true_or, or_true]) hr⟩
  · (repeat (first | rw [qE] | rw [qF _ _ _ _ (by omega)])); exact hr1
  · (repeat (first | rw [qE] | rw [qF _ _ _ _ (by omega)])); exact hl1
  · (repeat (first | rw [qE] | rw [qF _ _ _ _ (by omega)])); exact hb1
  · (repeat (first | rw [qE] | rw [qF _ _ _ _ (by omega)])); rw [hfr1 x (by omega) h1 (by omega)]; (repeat (first | rw [qE] | rw [qF _ _ _ _ (by omega)]))
theorem cell_eql : binV Try.prog .eql 41 false false (.agg #[.int .u8 9, .int .i64 1]) (.agg #[.int .u8 9, .int .i64 1]) = some (.bool true) := by kernel_rfl
theorem rfind1_ok (hO : Clear O) {r s b : Nat} {m : Int} {v : VV} (h : Ref1 o nx r m s b v) : oCall Try.prog [] O (n + 3) 55 [.pointer (some ⟨r, 0, none⟩), .agg #[.int .u8 9, .int .i64 1]] ⟨o, nx, lg⟩ = some (.pointer (some ⟨b, 0, none⟩), ⟨o, nx, lg⟩) := by
  refine of_got ?_
  have h1 := h.row
  have h2 := h.list
  have h3 := h.obj
  have l1 := h.ltr
  have l2 := h.lts
  have l3 := h.ltb
  have l6 : decide ((0 : Int) < Int.ofNat 1) = true := by decide
  have l5 : Nat.blt 0 1 = true := rfl
  rw [y_fn (rs := [.tmp 4]) (hO _ (by decide)) Try.func55 rfl (by kernel_rfl) rfl rfl]
  repeat (first | with_reducible (first | refine n_on ?_ | refine n_seq ?_ | refine s_else ?_ | refine n_t ?_ | refine n_gt ?_ | refine d_t ?_ | refine n_nil ?_ | refine d_nil ?_ | refine n_block ?_ | refine n_skip ?_ | refine n_bon ?_ | refine n_bback ?_ | refine n_back ?_ | refine n_out ?_ | refine n_bout rfl ?_ | refine n_bfar rfl ?_ | refine n_ret ?_ | refine n_exit ?_ | refine n_label ?_ | refine n_scope ?_ | refine n_son ?_ | refine n_sback ?_) | (with_reducible (first | apply n_region | apply d_region); (simp only [JV, JU, JW, Nat.reduceAdd, Nat.zero_add]; exact rfl)) | (with_reducible (first | apply s_op | apply n_guard | apply n_cond | apply d_guard | apply d_op | apply n_fin | apply n_finb); (simp (maxDischargeDepth := 6) only [sy3.1, zY, qG, qP, qQ, qR, qS, qT, rowAt, ↓jg, ↓ji, Nat.reduceAdd, Nat.reduceEqDiff, ne_eq, jG, Nat.reduceLT, if_true, ite_true, Int.reduceLE, Int.reduceLT, Int.reduceEq, Int.reduceNeg, Int.reduceAdd, Nat.reduceSub, if_false, ite_false, fs_55.1, h1, l1, kind_pure, kind_load, kind_fresh, kind_other, jg, ji, undef]; first | exact rfl | exact ⟨rfl, rfl, rfl, rfl⟩); try (with_reducible refine calmK_in ?_; decide +kernel)))
  rw [y_loop_eq]
  refine y_round ?_
  repeat (first | with_reducible (first | refine n_on ?_ | refine n_seq ?_ | refine s_else ?_ | refine n_t ?_ | refine n_gt ?_ | refine d_t ?_ | refine n_nil ?_ | refine d_nil ?_ | refine n_block ?_ | refine n_skip ?_ | refine n_bon ?_ | refine n_bback ?_ | refine n_back ?_ | refine n_out ?_ | refine n_bout rfl ?_ | refine n_bfar rfl ?_ | refine n_ret ?_ | refine n_exit ?_ | refine n_label ?_ | refine n_scope ?_ | refine n_son ?_ | refine n_sback ?_) | (with_reducible (first | apply n_region | apply d_region); (simp only [JV, JU, JW, Nat.reduceAdd, Nat.zero_add]; exact rfl)) | (with_reducible (first | apply s_op | apply n_guard | apply n_cond | apply d_guard | apply d_op | apply n_fin | apply n_finb); (simp (maxDischargeDepth := 6) only [sy3.1, zY, qG, qP, qQ, qR, qS, qT, rowAt, ↓jg, ↓ji, Nat.reduceAdd, Nat.reduceEqDiff, ne_eq, jG, Nat.reduceLT, if_true, ite_true, Int.reduceLE, Int.reduceLT, Int.reduceEq, Int.reduceNeg, Int.reduceAdd, Nat.reduceSub, if_false, ite_false, fs_55.1, h1, h2, h3, l1, l2, l3, l5, l6, rh1, robj, indexAt, Option.isNone_none, Nat.zero_mul, cut_twoL, cell_eql, kind_pure, kind_load, kind_fresh, kind_other, jg, ji, undef]; first | exact rfl | exact ⟨rfl, rfl, rfl, rfl⟩); try (with_reducible refine calmK_in ?_; decide +kernel)))
  exact Ja (by rfl) (show Nat.blt b nx = true from by rw [Nat.blt_eq]; exact l3)
theorem rused1_ok (hO : Clear O) {r s b : Nat} {m : Int} {v : VV} (h : Ref1 o nx r m s b v) : oCall Try.prog [] O (n + 3) 27 [.pointer (some ⟨r, 0, none⟩)] ⟨o, nx, lg⟩ = some (.int .i64 1, ⟨o, nx, lg⟩) := by
  refine of_got ?_
  have h1 := h.row
  have h2 := h.list
  have h3 := h.obj
  have l1 := h.ltr
  have l2 := h.lts
  have l3 := h.ltb
  have l6 : decide ((0 : Int) < Int.ofNat 1) = true := by decide
  have l7 : decide ((1 : Int) < Int.ofNat 1) = false := by decide
  have l5 : Nat.blt 0 1 = true := rfl
  have w1 : IntKind.i64.wrap (0 + 1) = 1 := by decide
  have w1' : IntKind.i64.wrap 1 = 1 := by decide
  have hs := fun (N1 : Nat) (L1 : List Nat) (hN : nx ≤ N1) => rsize9_ok (n := n) (o := o) (nx := N1) (lg := L1) hO h3 (by omega)
  rw [y_fn (rs := [.tmp 2]) (hO _ (by decide)) Try.func27 rfl (by kernel_rfl) rfl rfl]
  repeat (first | with_reducible (first | refine n_on ?_ | refine n_seq ?_ | refine s_else ?_ | refine n_t ?_ | refine n_gt ?_ | refine d_t ?_ | refine n_nil ?_ | refine d_nil ?_ | refine n_block ?_ | refine n_skip ?_ | refine n_bon ?_ | refine n_bback ?_ | refine n_back ?_ | refine n_out ?_ | refine n_bout rfl ?_ | refine n_bfar rfl ?_ | refine n_ret ?_ | refine n_exit ?_ | refine n_label ?_ | refine n_scope ?_ | refine n_son ?_ | refine n_sback ?_) | (with_reducible (first | apply n_region | apply d_region); (simp only [JV, JU, JW, Nat.reduceAdd, Nat.zero_add]; exact rfl)) | (with_reducible (first | apply s_op | apply n_guard | apply n_cond | apply d_guard | apply d_op | apply n_fin | apply n_finb); (simp (maxDischargeDepth := 6) only [sy3.1, zY, qG, qP, qQ, qR, qS, qT, rowAt, ↓jg, ↓ji, Nat.reduceAdd, Nat.reduceEqDiff, ne_eq, jG, Nat.reduceLT, if_true, ite_true, Int.reduceLE, Int.reduceLT, Int.reduceEq, Int.reduceNeg, Int.reduceAdd, Nat.reduceSub, if_false, ite_false, fs_27.1, h1, l1, kind_pure, kind_load, kind_fresh, kind_other, jg, ji, undef]; first | exact rfl | exact ⟨rfl, rfl, rfl, rfl⟩); try (with_reducible refine calmK_in ?_; decide +kernel)))
  rw [y_loop_eq]
  refine y_round ?_
  repeat (first | with_reducible (first | refine n_on ?_ | refine n_seq ?_ | refine s_else ?_ | refine n_t ?_ | refine n_gt ?_ | refine d_t ?_ | refine n_nil ?_ | refine d_nil ?_ | refine n_block ?_ | refine n_skip ?_ | refine n_bon ?_ | refine n_bback ?_ | refine n_back ?_ | refine n_out ?_ | refine n_bout rfl ?_ | refine n_bfar rfl ?_ | refine n_ret ?_ | refine n_exit ?_ | refine n_label ?_ | refine n_scope ?_ | refine n_son ?_ | refine n_sback ?_) | (with_reducible (first | apply n_region | apply d_region); (simp only [JV, JU, JW, Nat.reduceAdd, Nat.zero_add]; exact rfl)) | (with_reducible (first | apply s_op | apply n_guard | apply n_cond | apply d_guard | apply d_op | apply n_fin | apply n_finb); (simp (maxDischargeDepth := 6) only [sy3.1, zY, qG, qP, qQ, qR, qS, qT, rowAt, ↓jg, ↓ji, Nat.reduceAdd, Nat.reduceEqDiff, ne_eq, jG, Nat.reduceLT, if_true, ite_true, Int.reduceLE, Int.reduceLT, Int.reduceEq, Int.reduceNeg, Int.reduceAdd, Nat.reduceSub, if_false, ite_false, fs_27.1, h1, h2, l1, l2, l3, l5, l6, w1, w1', hs, Nat.le_add_right, rh1, indexAt, Option.isNone_none, Nat.zero_mul, kind_pure, kind_load, kind_fresh, kind_other, jg, ji, undef]; first | exact rfl | exact ⟨rfl, rfl, rfl, rfl⟩); try (with_reducible refine calmK_in ?_; decide +kernel)))
  refine y_round ?_
  repeat (first | with_reducible (first | refine n_on ?_ | refine n_seq ?_ | refine s_else ?_ | refine n_t ?_ | refine n_gt ?_ | refine d_t ?_ | refine n_nil ?_ | refine d_nil ?_ | refine n_block ?_ | refine n_skip ?_ | refine n_bon ?_ | refine n_bback ?_ | refine n_back ?_ | refine n_out ?_ | refine n_bout rfl ?_ | refine n_bfar rfl ?_ | refine n_ret ?_ | refine n_exit ?_ | refine n_label ?_ | refine n_scope ?_ | refine n_son ?_ | refine n_sback ?_) | (with_reducible (first | apply n_region | apply d_region); (simp only [JV, JU, JW, Nat.reduceAdd, Nat.zero_add]; exact rfl)) | (with_reducible (first | apply s_op | apply n_guard | apply n_cond | apply d_guard | apply d_op | apply n_fin | apply n_finb); (simp (maxDischargeDepth := 6) only [sy3.1, zY, qG, qP, qQ, qR, qS, qT, rowAt, ↓jg, ↓ji, Nat.reduceAdd, Nat.reduceEqDiff, ne_eq, jG, Nat.reduceLT, if_true, ite_true, Int.reduceLE, Int.reduceLT, Int.reduceEq, Int.reduceNeg, Int.reduceAdd, Nat.reduceSub, if_false, ite_false, fs_27.1, h1, l1, l7, rh1, kind_pure, kind_load, kind_fresh, kind_other, jg, ji, undef]; first | exact rfl | exact ⟨rfl, rfl, rfl, rfl⟩); try (with_reducible refine calmK_in ?_; decide +kernel)))
  try exact Ja (by simp only [all_relogL, js, ju, List.all_nil, jt, Bool.and_self]) (by rfl)
end
end Go.Proofs.Ytckahbnkdiamjaa
