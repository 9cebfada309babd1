/- Frame: the reference's heap, as far as `both` runs it: Func. -/
import Derived.Test.YtckahbnkdiamjaaFrRef3
namespace Go.Proofs.Ytckahbnkdiamjaa
open Go.RowKit
set_option linter.unusedSimpArgs false
set_option linter.unusedVariables false
set_option maxRecDepth 100000

theorem oapp_one {a c : Value} (hc1 : oneV c = true) : ∀ (o : Tr AObj) (nx : Nat) (lg : List Nat) (fid q j : Nat), o.get q = some (.row [c] 111 1 true) → o.get j = some (.row [a] 111 1 true) →
    aAppend Try.prog 117 117 (.slice (some ⟨j, 0, none⟩) 1 0) (.slice (some ⟨q, 0, none⟩) 1 2) fid ⟨o, nx, lg⟩ = some (.slice (some ⟨fid, 0, none⟩) 2 0, ⟨(o.put j none).put fid (some (.row [a, c] 111 1 true)), nx, noteId j lg⟩) := by
  intro o nx lg fid q j hq hj
  have hadd : addCells 1 (.slice (some ⟨q, 0, none⟩) 1 2) ⟨o, nx, lg⟩ = some (0 + 1, [c]) := by
    simp only [addCells, qH, hq]; rfl
  rw [app_row app_oo hadd hj (show cut [a] 0 (1 * 1) = some [a] from rfl) rfl (by simp [hc1])]; rfl
def RefFunc (o : Tr AObj) (nx : Nat) (lg : List Nat) (r s b : Nat) (q : Value × AHeap) : Prop :=
  ∃ o' nx' lg', q = (.tuple #[.agg #[.int .u8 6, .int .i64 2], .int .i64 0], ⟨o', nx', lg'⟩) ∧ nx ≤ nx' ∧ (∀ x, x < nx → x ≠ r → x ≠ s → x ≠ b → o'.get x = o.get x) ∧ (∀ y, y ∈ lg → y ∈ lg') ∧ r ∈ lg'
def RefFun2 (o : Tr AObj) (nx : Nat) (lg : List Nat) (r s : Nat) (q : Value × AHeap) : Prop := ∃ o' nx' lg', q = (.tuple #[.agg #[.int .u8 6, .int .i64 2], .int .i64 0], ⟨o', nx', lg'⟩) ∧ nx ≤ nx' ∧ (∀ x, x < nx → x ≠ r → x ≠ s → o'.get x = o.get x) ∧ (∀ y, y ∈ lg → y ∈ lg') ∧ r ∈ lg'
section
variable {O : Helps} {n : Nat} {o : Tr AObj} {nx : Nat} {lg : List Nat}
set_option maxHeartbeats 32000000 in
theorem radd1_ok (hO : Clear O) {r s b0 : Nat} {m : Int} {v0 : VV} (h : Ref1 o nx r m s b0 v0) {b j : Nat} {z : Nat} (h2 : o.get b = some (.row (robj 0 0 (0, 0) 0 (.slice (some ⟨j, 0, none⟩) 1 0)) 116 z true)) (hb : b < nx) (hrb : r ≠ b) (hsb : s ≠ b) (hbb : b0 ≠ b) (hm : 100 ≤ m) :
    Got (oCall Try.prog [] O (n + 5) 69 [.pointer (some ⟨r, 0, none⟩), .int .u8 6, .pointer (some ⟨b, 0, none⟩)] ⟨o, nx, lg⟩) (RefFunc o nx lg r s b) := by
  have hbr := Ne.symm hrb
  have hbs := Ne.symm hsb
  have hbb' := Ne.symm hbb
  have h1 := h.row
  have h3 := h.list
  have h4 := h.obj
  have hr := h.ltr
  have hs := h.lts
  have hb0 := h.ltb
  have hrs := h.rs
  have hsr := Ne.symm hrs
  have hrb0 := h.rb
  have hbr0 := Ne.symm hrb0
  have hsb0 := h.sb
  have hbs0 := Ne.symm hsb0
  have hu := fun (O1 : Tr AObj) (N1 : Nat) (L1 : List Nat) (hN : nx ≤ N1) (k1 : O1.get r = some (.row (rh1 m s) 119 0 true)) (k2 : O1.get s = some (.row [.pointer (some ⟨b0, 0, none⟩)] 111 1 true)) (k3 : O1.get b0 = some (.row (robj 9 1 v0 0 (.slice none 0 0)) 116 0 true)) => rused1_ok (n := n + 1) (o := O1) (nx := N1) (lg := L1) hO (m := m) (v := v0) (h.keep hN (k1.trans h1.symm) (k2.trans h3.symm) (k3.trans h4.symm))
  have hz := fun (O1 : Tr AObj) (N1 : Nat) (L1 : List Nat) (hN : nx ≤ N1) (k : O1.get b = some (.row (robj 6 1 (0, 0) 0 (.slice (some ⟨j, 0, none⟩) 1 0)) 116 z true)) => rsize6_ok (n := n + 2) (o := O1) (nx := N1) (lg := L1) hO k (by omega)
  have l6 : decide ((0 : Int) < Int.ofNat 1) = true := by decide
  have l6' : decide ((1 : Int) < Int.ofNat 1) = false := by decide
  have l7a : decide ((65536 : Int) ≤ Int.ofNat 1) = false := by decide
  have l8 : decide (m < 4) = false := decide_eq_false (by omega)
  have l5 : Nat.blt 0 1 = true := rfl
  have w1 : IntKind.i64.wrap (1 + 3) = 4 := by decide
  have w1' : IntKind.i64.wrap 4 = 4 := by decide
  have w2 : IntKind.i64.wrap (0 + 1) = 1 := by decide
  have w2' : IntKind.i64.wrap 1 = 1 := by decide
  have w3 : IntKind.i64.wrap (1 + 1) = 2 := by decide
  have w3' : IntKind.i64.wrap 2 = 2 := by decide
  have w4 : IntKind.i64.wrap (Int.ofNat 2 - 1) = 1 := by decide
  have happ := oapp_one (a := .pointer (some ⟨b0, 0, none⟩)) (c := .pointer (some ⟨b, 0, none⟩)) rfl
  rw [y_fn (rs := [.cell 6 41, .tmp 7]) (hO _ (by decide)) Try.func69 rfl (by kernel_rfl) rfl rfl]
  repeat (first | with_reducible (first | refine n_on ?_ | refine n_seq ?_ | refine s_else ?_ | refine n_t ?_ | refine n_gt ?_ | refine d_t ?_ | refine n_nil ?_ | refine d_nil ?_ | refine n_block ?_ | refine n_skip ?_ | refine n_bon ?_ | refine n_bback ?_ | refine n_back ?_ | refine n_out ?_ | refine n_bout rfl ?_ | refine n_bfar rfl ?_ | refine n_ret ?_ | refine n_exit ?_ | refine n_label ?_ | refine n_scope ?_ | refine n_son ?_ | refine n_sback ?_) | (with_reducible (first | apply n_region | apply d_region); (simp only [JV, JU, JW, Nat.reduceAdd, Nat.zero_add]; exact rfl)) | (with_reducible (first | apply s_op | apply n_guard | apply n_cond | apply d_guard | apply d_op | apply n_fin | apply n_finb); (simp (maxDischargeDepth := 6) only [sy3.1, zY, qG, qP, qQ, qR, qS, qT, rowAt, ↓jg, ↓ji, Nat.reduceAdd, Nat.reduceEqDiff, ne_eq, jG, Nat.reduceLT, if_true, ite_true, Int.reduceLE, Int.reduceLT, Int.reduceEq, Int.reduceNeg, Int.reduceAdd, Nat.reduceSub, if_false, ite_false, fs_69.1, h1, h2, h3, h4, hr, hs, hb0, hb, hrb, hbr, hbs, hsb, hbb, hbb', hrs, hsr, hrb0, hbr0, hsb0, hbs0, l7a, l8, w1, w1', hu, hz, Nat.le_add_right, rh1, robj, kind_pure, kind_load, kind_fresh, kind_other, jg, ji, undef]; first | exact rfl | exact ⟨rfl, rfl, rfl, rfl⟩); try (with_reducible refine calmK_in ?_; decide +kernel)))
  rw [y_loop_eq]
  refine y_round ?_
  repeat (first | with_reducible (first | refine n_on ?_ | refine n_seq ?_ | refine s_else ?_ | refine n_t ?_ | refine n_gt ?_ | refine d_t ?_ | refine n_nil ?_ | refine d_nil ?_ | refine n_block ?_ | refine n_skip ?_ | refine n_bon ?_ | refine n_bback ?_ | refine n_back ?_ | refine n_out ?_ | refine n_bout rfl ?_ | refine n_bfar rfl ?_ | refine n_ret ?_ | refine n_exit ?_ | refine n_label ?_ | refine n_scope ?_ | refine n_son ?_ | refine n_sback ?_) | (with_reducible (first | apply n_region | apply d_region); (simp only [JV, JU, JW, Nat.reduceAdd, Nat.zero_add]; exact rfl)) | (with_reducible (first | apply s_op | apply n_guard | apply n_cond | apply d_guard | apply d_op | apply n_fin | apply n_finb); (simp (maxDischargeDepth := 6) only [sy3.1, zY, qG, qP, qQ, qR, qS, qT, rowAt, ↓jg, ↓ji, Nat.reduceAdd, Nat.reduceEqDiff, ne_eq, jG, Nat.reduceLT, if_true, ite_true, Int.reduceLE, Int.reduceLT, Int.reduceEq, Int.reduceNeg, Int.reduceAdd, Nat.reduceSub, if_false, ite_false, fs_69.1, h1, h2, h3, h4, hr, hs, hb0, hb, hrb, hbr, hbs, hsb, hbb, hbb', hrs, hsr, hrb0, hbr0, hsb0, hbs0, l5, l6, w2, w2', indexAt, Option.isNone_none, Nat.zero_mul, rh1, robj, kind_pure, kind_load, kind_fresh, kind_other, jg, ji, undef]; first | exact rfl | exact ⟨rfl, rfl, rfl, rfl⟩); try (with_reducible refine calmK_in ?_; decide +kernel)))
  refine y_round ?_
  repeat (first | with_reducible (first | refine n_on ?_ | refine n_seq ?_ | refine s_else ?_ | refine n_t ?_ | refine n_gt ?_ | refine d_t ?_ | refine n_nil ?_ | refine d_nil ?_ | refine n_block ?_ | refine n_skip ?_ | refine n_bon ?_ | refine n_bback ?_ | refine n_back ?_ | refine n_out ?_ | refine n_bout rfl ?_ | refine n_bfar rfl ?_ | refine n_ret ?_ | refine n_exit ?_ | refine n_label ?_ | refine n_scope ?_ | refine n_son ?_ | refine n_sback ?_) | (with_reducible (first | apply n_region | apply d_region); (simp only [JV, JU, JW, Nat.reduceAdd, Nat.zero_add]; exact rfl)) | (with_reducible (first | apply s_op | apply n_guard | apply n_cond | apply d_guard | apply d_op | apply n_fin | apply n_finb); (simp (maxDischargeDepth := 6) only [sy3.1, zY, qG, qP, qQ, qR, qS, qT, rowAt, ↓jg, ↓ji, Nat.reduceAdd, Nat.reduceEqDiff, ne_eq, jG, Nat.reduceLT, if_true, ite_true, Int.reduceLE, Int.reduceLT, Int.reduceEq, Int.reduceNeg, Int.reduceAdd, Nat.reduceSub, if_false, ite_false, fs_69.1, h1, h2, h3, h4, hr, hs, hb0, hb, hrb, hbr, hbs, hsb, hbb, hbb', hrs, hsr, hrb0, hbr0, hsb0, hbs0, l6', w3, w3', w4, w2', st_buildSliceV, build_ob, happ, rh1, robj, kind_pure, kind_load, kind_fresh, kind_other, jg, ji, undef]; first | exact rfl | exact ⟨rfl, rfl, rfl, rfl⟩); try (with_reducible refine calmK_in ?_; decide +kernel)))
  rw [y_loop_eq]
  refine y_round ?_
  repeat (first | with_reducible (first | refine n_on ?_ | refine n_seq ?_ | refine s_else ?_ | refine n_t ?_ | refine n_gt ?_ | refine d_t ?_ | refine n_nil ?_ | refine d_nil ?_ | refine n_block ?_ | refine n_skip ?_ | refine n_bon ?_ | refine n_bback ?_ | refine n_back ?_ | refine n_out ?_ | refine n_bout rfl ?_ | refine n_bfar rfl ?_ | refine n_ret ?_ | refine n_exit ?_ | refine n_label ?_ | refine n_scope ?_ | refine n_son ?_ | refine n_sback ?_) | (with_reducible (first | apply n_region | apply d_region); (simp only [JV, JU, JW, Nat.reduceAdd, Nat.zero_add]; exact rfl)) | (with_reducible (first | apply s_op | apply n_guard | apply n_cond | apply d_guard | apply d_op | apply n_fin | apply n_finb); (simp (maxDischargeDepth := 6) only [sy3.1, zY, qG, qP, qQ, qR, qS, qT, rowAt, ↓jg, ↓ji, Nat.reduceAdd, Nat.reduceEqDiff, ne_eq, jG, Nat.reduceLT, if_true, ite_true, Int.reduceLE, Int.reduceLT, Int.reduceEq, Int.reduceNeg, Int.reduceAdd, Nat.reduceSub, if_false, ite_false, fs_69.1, h1, h2, hr, hs, hb, hrb, hbr, hsb, hbs, rh1, robj, cut_twoL, kind_pure, kind_load, kind_fresh, kind_other, jg, ji, undef]; first | exact rfl | exact ⟨rfl, rfl, rfl, rfl⟩); try (with_reducible refine calmK_in ?_; decide +kernel)))
  refine loud_end (x := r) (by simp only [in_relogL, in_note, true_or, or_true]) hr fun l' hmo hin => ?_
  refine ⟨_, _, _, rfl, by omega, fun x hx x1 x2 x3 => ?_, hmo, hin r (by simp only [in_relogL, in_note, true_or, or_true]) hr⟩
  (repeat (first | rw [qE] | rw [qF _ _ _ _ (by omega)]))
set_option maxHeartbeats 32000000 in
theorem rfunc_ok (hO : Clear O) {r s b0 : Nat} {m : Int} {v0 : VV} (h : Ref1 o nx r m s b0 v0) {j cc : Nat} (hj : o.get j = some (.row [.int .u8 9, .int .i64 1] 41 2 true)) (hjl : j < nx) (hm : 100 ≤ m) :
    Got (oCall Try.prog [] O (n + 6) 44 [.pointer (some ⟨r, 0, none⟩), .int .i64 0, .slice (some ⟨j, 0, none⟩) 1 cc] ⟨o, nx, lg⟩) (RefFun2 o nx lg r s) := by
  have h1 := h.row
  have hr := h.ltr
  have hf := fun (O1 : Tr AObj) (N1 : Nat) (L1 : List Nat) (hN : nx ≤ N1) (hold : ∀ x, x < nx → O1.get x = o.get x) => rfind1_ok (n := n + 2) (o := O1) (nx := N1) (lg := L1) hO (h.keep hN (hold _ h.ltr) (hold _ h.lts) (hold _ h.ltb))
  have l1 : decide ((60 : Int) < Int.ofNat 1) = false := by decide
  have l6 : decide ((0 : Int) < Int.ofNat 1) = true := by decide
  have l6' : decide ((1 : Int) < Int.ofNat 1) = false := by decide
  have l5 : Nat.blt 0 1 = true := rfl
  have w2 : IntKind.i64.wrap (0 + 1) = 1 := by decide
  have w2' : IntKind.i64.wrap 1 = 1 := by decide
  rw [y_fn (rs := [.cell 6 41, .tmp 7]) (hO _ (by decide)) Try.func44 rfl (by kernel_rfl) rfl rfl]
  repeat (first | with_reducible (first | refine n_on ?_ | refine n_seq ?_ | refine s_else ?_ | refine n_t ?_ | refine n_gt ?_ | refine d_t ?_ | refine n_nil ?_ | refine d_nil ?_ | refine n_block ?_ | refine n_skip ?_ | refine n_bon ?_ | refine n_bback ?_ | refine n_back ?_ | refine n_out ?_ | refine n_bout rfl ?_ | refine n_bfar rfl ?_ | refine n_ret ?_ | refine n_exit ?_ | refine n_label ?_ | refine n_scope ?_ | refine n_son ?_ | refine n_sback ?_) | (with_reducible (first | apply n_region | apply d_region); (simp only [JV, JU, JW, Nat.reduceAdd, Nat.zero_add]; exact rfl)) | (with_reducible (first | apply s_op | apply n_guard | apply n_cond | apply d_guard | apply d_op | apply n_fin | apply n_finb); (simp (maxDischargeDepth := 6) only [sy3.1, zY, qG, qP, qQ, qR, qS, qT, rowAt, ↓jg, ↓ji, Nat.reduceAdd, Nat.reduceEqDiff, ne_eq, jG, Nat.reduceLT, if_true, ite_true, Int.reduceLE, Int.reduceLT, Int.reduceEq, Int.reduceNeg, Int.reduceAdd, Nat.reduceSub, if_false, ite_false, fs_44.1, l1, kind_pure, kind_load, kind_fresh, kind_other, jg, ji, undef]; first | exact rfl | exact ⟨rfl, rfl, rfl, rfl⟩); try (with_reducible refine calmK_in ?_; decide +kernel)))
  rw [y_loop_eq]
  refine y_round ?_
  repeat (first | with_reducible (first | refine n_on ?_ | refine n_seq ?_ | refine s_else ?_ | refine n_t ?_ | refine n_gt ?_ | refine d_t ?_ | refine n_nil ?_ | refine d_nil ?_ | refine n_block ?_ | refine n_skip ?_ | refine n_bon ?_ | refine n_bback ?_ | refine n_back ?_ | refine n_out ?_ | refine n_bout rfl ?_ | refine n_bfar rfl ?_ | refine n_ret ?_ | refine n_exit ?_ | refine n_label ?_ | refine n_scope ?_ | refine n_son ?_ | refine n_sback ?_) | (with_reducible (first | apply n_region | apply d_region); (simp only [JV, JU, JW, Nat.reduceAdd, Nat.zero_add]; exact rfl)) | (with_reducible (first | apply s_op | apply n_guard | apply n_cond | apply d_guard | apply d_op | apply n_fin | apply n_finb); (simp (maxDischargeDepth := 6) only [sy3.1, zY, qG, qP, qQ, qR, qS, qT, rowAt, ↓jg, ↓ji, Nat.reduceAdd, Nat.reduceEqDiff, ne_eq, jG, Nat.reduceLT, if_true, ite_true, Int.reduceLE, Int.reduceLT, Int.reduceEq, Int.reduceNeg, Int.reduceAdd, Nat.reduceSub, if_false, ite_false, fs_44.1, hj, hjl, l5, l6, indexAt, Option.isNone_none, Nat.zero_mul, cut_twoL, kind_pure, kind_load, kind_fresh, kind_other, jg, ji, undef]; first | exact rfl | exact ⟨rfl, rfl, rfl, rfl⟩); try (with_reducible refine calmK_in ?_; decide +kernel)))
  refine s_do _ (by
    simp (maxDischargeDepth := 6) only [sy3.1, zY, qG, qP, qQ, qR, qS, qT, rowAt, ↓jg, ↓ji, Nat.reduceAdd, Nat.reduceEqDiff, ne_eq, jG, Nat.reduceLT, if_true, ite_true, Int.reduceLE, Int.reduceLT, Int.reduceEq, Int.reduceNeg, Int.reduceAdd, Nat.reduceSub, if_false, ite_false, fs_44.1]
    exact got_eq (hf _ _ _ (by omega) fun x hx => by (repeat (first | rw [qE] | rw [qF _ _ _ _ (by omega)])))) ?_
  rintro _ _ heq
  cases heq
  repeat (first | with_reducible (first | refine n_on ?_ | refine n_seq ?_ | refine s_else ?_ | refine n_t ?_ | refine n_gt ?_ | refine d_t ?_ | refine n_nil ?_ | refine d_nil ?_ | refine n_block ?_ | refine n_skip ?_ | refine n_bon ?_ | refine n_bback ?_ | refine n_back ?_ | refine n_out ?_ | refine n_bout rfl ?_ | refine n_bfar rfl ?_ | refine n_ret ?_ | refine n_exit ?_ | refine n_label ?_ | refine n_scope ?_ | refine n_son ?_ | refine n_sback ?_) | (with_reducible (first | apply n_region | apply d_region); (simp only [JV, JU, JW, Nat.reduceAdd, Nat.zero_add]; exact rfl)) | (with_reducible (first | apply s_op | apply n_guard | apply n_cond | apply d_guard | apply d_op | apply n_fin | apply n_finb); (simp (maxDischargeDepth := 6) only [sy3.1, zY, qG, qP, qQ, qR, qS, qT, rowAt, ↓jg, ↓ji, Nat.reduceAdd, Nat.reduceEqDiff, ne_eq, jG, Nat.reduceLT, if_true, ite_true, Int.reduceLE, Int.reduceLT, Int.reduceEq, Int.reduceNeg, Int.reduceAdd, Nat.reduceSub, if_false, ite_false, fs_44.1, w2, w2', kind_pure, kind_load, kind_fresh, kind_other, jg, ji, undef]; first | exact rfl | exact ⟨rfl, rfl, rfl, rfl⟩); try (with_reducible refine calmK_in ?_; decide +kernel)))
  refine y_round ?_
  have happ : ∀ (o : Tr AObj) (nx : Nat) (lg : List Nat) (fid q : Nat), o.get q = some (.row [] 41 2 true) → o.get j = some (.row [.int .u8 9, .int .i64 1] 41 2 true) →
      aAppend Try.prog 26 26 (.slice (some ⟨q, 0, none⟩) 0 1) (.slice (some ⟨j, 0, none⟩) 1 cc) fid ⟨o, nx, lg⟩ = some (.slice (some ⟨fid, 0, none⟩) 1 0, ⟨o.put fid (some (.row [.int .u8 9, .int .i64 1] 41 2 true)), nx, lg⟩) :=
    fun o nx lg fid q hq hj => vapp_row (l := [(9, 1)]) (rest := []) (m := 0) (cc := cc) (j := j) rfl (by decide) o nx lg fid q hq hj
  repeat (first | with_reducible (first | refine n_on ?_ | refine n_seq ?_ | refine s_else ?_ | refine n_t ?_ | refine n_gt ?_ | refine d_t ?_ | refine n_nil ?_ | refine d_nil ?_ | refine n_block ?_ | refine n_skip ?_ | refine n_bon ?_ | refine n_bback ?_ | refine n_back ?_ | refine n_out ?_ | refine n_bout rfl ?_ | refine n_bfar rfl ?_ | refine n_ret ?_ | refine n_exit ?_ | refine n_label ?_ | refine n_scope ?_ | refine n_son ?_ | refine n_sback ?_) | (with_reducible (first | apply n_region | apply d_region); (simp only [JV, JU, JW, Nat.reduceAdd, Nat.zero_add]; exact rfl)) | (with_reducible (first | apply s_op | apply n_guard | apply n_cond | apply d_guard | apply d_op | apply n_fin | apply n_finb); (simp (maxDischargeDepth := 6) only [sy3.1, zY, qG, qP, qQ, qR, qS, qT, rowAt, ↓jg, ↓ji, Nat.reduceAdd, Nat.reduceEqDiff, ne_eq, jG, Nat.reduceLT, if_true, ite_true, Int.reduceLE, Int.reduceLT, Int.reduceEq, Int.reduceNeg, Int.reduceAdd, Nat.reduceSub, if_false, ite_false, fs_44.1, l6', hj, hjl, st_buildSliceV, build_vv0, happ, kind_pure, kind_load, kind_fresh, kind_other, jg, ji, undef]; first | exact rfl | exact ⟨rfl, rfl, rfl, rfl⟩); try (with_reducible refine calmK_in ?_; decide +kernel)))
  have rlt := h.ltr
  have slt := h.lts
  refine s_do _ (by
    simp (maxDischargeDepth := 6) only [sy3.1, zY, qG, qP, qQ, qR, qS, qT, rowAt, ↓jg, ↓ji, Nat.reduceAdd, Nat.reduceEqDiff, ne_eq, jG, Nat.reduceLT, if_true, ite_true, Int.reduceLE, Int.reduceLT, Int.reduceEq, Int.reduceNeg, Int.reduceAdd, Nat.reduceSub, if_false, ite_false, fs_44.1]
    exact radd1_ok (n := n) (z := 0) (j := nx + 40) (v0 := v0) hO (h.keep (by omega) (by have := h.ltr; (repeat (first | rw [qE] | rw [qF _ _ _ _ (by omega)]))) (by have := h.lts; (repeat (first | rw [qE] | rw [qF _ _ _ _ (by omega)]))) (by have := h.ltb; (repeat (first | rw [qE] | rw [qF _ _ _ _ (by omega)])))) (qE _ _ _) (by omega) (by omega) (by omega) (by have := h.ltb; omega) hm) ?_
  rintro v1 H1 ⟨o1, nx1, lg1, heq, hn1, hfr1, hmo1, hin1⟩
  cases heq
  have h4 : o1.get nx = some (.row [.int .u8 0, .int .i64 0] 41 0 true) := by rw [hfr1 _ (by omega) (by omega) (by omega) (by omega)]; (repeat (first | rw [qE] | rw [qF _ _ _ _ (by omega)]))
  repeat (first | with_reducible (first | refine n_on ?_ | refine n_seq ?_ | refine s_else ?_ | refine n_t ?_ | refine n_gt ?_ | refine d_t ?_ | refine n_nil ?_ | refine d_nil ?_ | refine n_block ?_ | refine n_skip ?_ | refine n_bon ?_ | refine n_bback ?_ | refine n_back ?_ | refine n_out ?_ | refine n_bout rfl ?_ | refine n_bfar rfl ?_ | refine n_ret ?_ | refine n_exit ?_ | refine n_label ?_ | refine n_scope ?_ | refine n_son ?_ | refine n_sback ?_) | (with_reducible (first | apply n_region | apply d_region); (simp only [JV, JU, JW, Nat.reduceAdd, Nat.zero_add]; exact rfl)) | (with_reducible (first | apply s_op | apply n_guard | apply n_cond | apply d_guard | apply d_op | apply n_fin | apply n_finb); (simp (maxDischargeDepth := 6) only [sy3.1, zY, qG, qP, qQ, qR, qS, qT, rowAt, ↓jg, ↓ji, Nat.reduceAdd, Nat.reduceEqDiff, ne_eq, jG, Nat.reduceLT, if_true, ite_true, Int.reduceLE, Int.reduceLT, Int.reduceEq, Int.reduceNeg, Int.reduceAdd, Nat.reduceSub, if_false, ite_false, fs_44.1, h4, kind_pure, kind_load, kind_fresh, kind_other, jg, ji, undef]; first | exact rfl | exact ⟨rfl, rfl, rfl, rfl⟩); try (with_reducible refine calmK_in ?_; decide +kernel)))
  refine loud_end (x := r) (by simp only [in_relogL, in_note, hin1, true_or, or_true]) hr fun l' hmo hin => ?_
  refine ⟨_, _, _, rfl, by omega, fun x hx x1 x2 => ?_, hmo, hin r (by simp only [in_relogL, in_note, hin1, true_or, or_true]) hr⟩
  (repeat (first | rw [qE] | rw [qF _ _ _ _ (by omega)]))
  rw [hfr1 x (by omega) x1 x2 (by omega)]
  (repeat (first | rw [qE] | rw [qF _ _ _ _ (by omega)]))
end
end Go.Proofs.Ytckahbnkdiamjaa
