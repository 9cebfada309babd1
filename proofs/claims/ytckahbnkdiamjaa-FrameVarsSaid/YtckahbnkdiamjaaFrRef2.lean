/- Frame: the reference's heap, as far as `both` runs it: its first two things. -/
import Derived.Test.YtckahbnkdiamjaaFrRef1
namespace Go.Proofs.Ytckahbnkdiamjaa
open Go.RowKit
set_option linter.unusedSimpArgs false
set_option linter.unusedVariables false
set_option maxRecDepth 100000

theorem cut_twoL (a b : Value) (l : List Value) : cut (a :: b :: l) 0 2 = some [a, b] := cut_in rfl [] l rfl rfl
theorem build_ob : ∀ b fid H, buildSliceV Try.prog 117 1 [(0, .pointer (some ⟨b, 0, none⟩))] fid H = some (.slice (some ⟨fid, 0, none⟩) 1 2, newRowA fid [.pointer (some ⟨b, 0, none⟩)] 111 1 H) := fun b fid H => by kernel_rfl
theorem app_oo : appOf Try.prog 117 117 = some (111, 1, 8) := by kernel_rfl
theorem oapp_nil {c : Value} : ∀ (o : Tr AObj) (nx : Nat) (lg : List Nat) (fid q : Nat), o.get q = some (.row [c] 111 1 true) →
    aAppend Try.prog 117 117 (.slice none 0 0) (.slice (some ⟨q, 0, none⟩) 1 2) fid ⟨o, nx, lg⟩ = some (.slice (some ⟨fid, 0, none⟩) 1 0, ⟨o.put fid (some (.row [c] 111 1 true)), nx, lg⟩) := by
  intro o nx lg fid q hq
  have hadd : addCells 1 (.slice (some ⟨q, 0, none⟩) 1 2) ⟨o, nx, lg⟩ = some (0 + 1, [c]) := by
    simp only [addCells, qH, hq]; rfl
  rw [app_none app_oo hadd rfl]; rfl
section
variable {O : Helps} {n : Nat} {o : Tr AObj} {nx : Nat} {lg : List Nat}
def RefAdd (o : Tr AObj) (nx : Nat) (lg : List Nat) (r b : Nat) (m : Int) (v : VV) (p : Int) (cs : Value) (z : Nat) (q : Value × AHeap) : Prop := ∃ o' nx' lg' s, q = (.tuple #[.agg #[.int .u8 9, .int .i64 1], .int .i64 0], ⟨o', nx', lg'⟩) ∧ nx ≤ nx' ∧ nx ≤ s ∧ s < nx' ∧ o'.get r = some (.row (rh1 m s) 119 0 true) ∧ o'.get s = some (.row [.pointer (some ⟨b, 0, none⟩)] 111 1 true) ∧ o'.get b = some (.row (robj 9 1 v p cs) 116 z true) ∧ (∀ x, x < nx → x ≠ r → x ≠ b → o'.get x = o.get x) ∧ (∀ y, y ∈ lg → y ∈ lg') ∧ r ∈ lg'
set_option maxHeartbeats 32000000 in
theorem radd0_ok (hO : Clear O) {r b : Nat} {m : Int} {v : VV} {p : Int} {cs : Value} {z : Nat} (h : o.get r = some (.row (rh0 m) 119 0 true)) (hr : r < nx) (h2 : o.get b = some (.row (robj 0 0 v p cs) 116 z true)) (hb : b < nx) (hrb : r ≠ b) (hm : 1 ≤ m) :
    Got (oCall Try.prog [] O (n + 3) 69 [.pointer (some ⟨r, 0, none⟩), .int .u8 9, .pointer (some ⟨b, 0, none⟩)] ⟨o, nx, lg⟩) (RefAdd o nx lg r b m v p cs z) := by
  have hbr := Ne.symm hrb
  have hu := fun (O1 : Tr AObj) (N1 : Nat) (L1 : List Nat) (hN : nx ≤ N1) (h : O1.get r = some (.row (rh0 m) 119 0 true)) => rused0_ok (n := n) (o := O1) (nx := N1) (lg := L1) hO h (by omega)
  have hs := fun (O1 : Tr AObj) (N1 : Nat) (L1 : List Nat) (hN : nx ≤ N1) (h : O1.get b = some (.row (robj 9 1 v p cs) 116 z true)) => rsize9_ok (n := n) (o := O1) (nx := N1) (lg := L1) hO h (by omega)
  have l6 : decide ((0 : Int) < Int.ofNat 0) = false := by decide
  have l7 : decide ((65536 : Int) ≤ Int.ofNat 0) = false := by decide
  have l8 : decide (m < 1) = false := decide_eq_false (by omega)
  have w1 : IntKind.i64.wrap (0 + 1) = 1 := by decide
  have w1' : IntKind.i64.wrap 1 = 1 := by decide
  rw [y_fn (rs := [.cell 6 41, .tmp 7]) (hO _ (by decide)) Try.func69 rfl (by kernel_rfl) rfl rfl]
  repeat (first | with_reducible (first | refine n_on ?_ | refine n_seq ?_ | refine s_else ?_ | refine n_t ?_ | refine n_gt ?_ | refine d_t ?_ | refine n_nil ?_ | refine d_nil ?_ | refine n_block ?_ | refine n_skip ?_ | refine n_bon ?_ | refine n_bback ?_ | refine n_back ?_ | refine n_out ?_ | refine n_bout rfl ?_ | refine n_bfar rfl ?_ | refine n_ret ?_ | refine n_exit ?_ | refine n_label ?_ | refine n_scope ?_ | refine n_son ?_ | refine n_sback ?_) | (with_reducible (first | apply n_region | apply d_region); (simp only [JV, JU, JW, Nat.reduceAdd, Nat.zero_add]; exact rfl)) | (with_reducible (first | apply s_op | apply n_guard | apply n_cond | apply d_guard | apply d_op | apply n_fin | apply n_finb); (simp (maxDischargeDepth := 6) only [sy3.1, zY, qG, qP, qQ, qR, qS, qT, rowAt, ↓jg, ↓ji, Nat.reduceAdd, Nat.reduceEqDiff, ne_eq, jG, Nat.reduceLT, if_true, ite_true, Int.reduceLE, Int.reduceLT, Int.reduceEq, Int.reduceNeg, Int.reduceAdd, Nat.reduceSub, if_false, ite_false, fs_69.1, h, hr, h2, hb, hrb, hbr, l7, l8, w1, w1', hu, hs, Nat.le_add_right, rh0, robj, kind_pure, kind_load, kind_fresh, kind_other, jg, ji, undef]; first | exact rfl | exact ⟨rfl, rfl, rfl, rfl⟩); try (with_reducible refine calmK_in ?_; decide +kernel)))
  rw [y_loop_eq]
  refine y_round ?_
  have w0 : IntKind.i64.wrap (Int.ofNat 1 - 1) = 0 := by decide
  have w0' : IntKind.i64.wrap 0 = 0 := by decide
  have happ := oapp_nil (c := .pointer (some ⟨b, 0, none⟩))
  repeat (first | with_reducible (first | refine n_on ?_ | refine n_seq ?_ | refine s_else ?_ | refine n_t ?_ | refine n_gt ?_ | refine d_t ?_ | refine n_nil ?_ | refine d_nil ?_ | refine n_block ?_ | refine n_skip ?_ | refine n_bon ?_ | refine n_bback ?_ | refine n_back ?_ | refine n_out ?_ | refine n_bout rfl ?_ | refine n_bfar rfl ?_ | refine n_ret ?_ | refine n_exit ?_ | refine n_label ?_ | refine n_scope ?_ | refine n_son ?_ | refine n_sback ?_) | (with_reducible (first | apply n_region | apply d_region); (simp only [JV, JU, JW, Nat.reduceAdd, Nat.zero_add]; exact rfl)) | (with_reducible (first | apply s_op | apply n_guard | apply n_cond | apply d_guard | apply d_op | apply n_fin | apply n_finb); (simp (maxDischargeDepth := 6) only [sy3.1, zY, qG, qP, qQ, qR, qS, qT, rowAt, ↓jg, ↓ji, Nat.reduceAdd, Nat.reduceEqDiff, ne_eq, jG, Nat.reduceLT, if_true, ite_true, Int.reduceLE, Int.reduceLT, Int.reduceEq, Int.reduceNeg, Int.reduceAdd, Nat.reduceSub, if_false, ite_false, fs_69.1, h, hr, h2, hb, hrb, hbr, l6, w1, w1', w0, w0', st_buildSliceV, build_ob, happ, rh0, robj, kind_pure, kind_load, kind_fresh, kind_other, jg, ji, undef]; first | exact rfl | exact ⟨rfl, rfl, rfl, rfl⟩); try (with_reducible refine calmK_in ?_; decide +kernel)))
  rw [y_loop_eq]
  refine y_round ?_
  repeat (first | with_reducible (first | refine n_on ?_ | refine n_seq ?_ | refine s_else ?_ | refine n_t ?_ | refine n_gt ?_ | refine d_t ?_ | refine n_nil ?_ | refine d_nil ?_ | refine n_block ?_ | refine n_skip ?_ | refine n_bon ?_ | refine n_bback ?_ | refine n_back ?_ | refine n_out ?_ | refine n_bout rfl ?_ | refine n_bfar rfl ?_ | refine n_ret ?_ | refine n_exit ?_ | refine n_label ?_ | refine n_scope ?_ | refine n_son ?_ | refine n_sback ?_) | (with_reducible (first | apply n_region | apply d_region); (simp only [JV, JU, JW, Nat.reduceAdd, Nat.zero_add]; exact rfl)) | (with_reducible (first | apply s_op | apply n_guard | apply n_cond | apply d_guard | apply d_op | apply n_fin | apply n_finb); (simp (maxDischargeDepth := 6) only [sy3.1, zY, qG, qP, qQ, qR, qS, qT, rowAt, ↓jg, ↓ji, Nat.reduceAdd, Nat.reduceEqDiff, ne_eq, jG, Nat.reduceLT, if_true, ite_true, Int.reduceLE, Int.reduceLT, Int.reduceEq, Int.reduceNeg, Int.reduceAdd, Nat.reduceSub, if_false, ite_false, fs_69.1, h, hr, h2, hb, hrb, hbr, rh0, robj, cut_twoL, kind_pure, kind_load, kind_fresh, kind_other, jg, ji, undef]; first | exact rfl | exact ⟨rfl, rfl, rfl, rfl⟩); try (with_reducible refine calmK_in ?_; decide +kernel)))
  refine loud_end (x := r) (by simp only [in_relogL, in_note, true_or, or_true]) hr fun l' hmo hin => ?_
  refine ⟨_, _, _, nx + 82, rfl, by omega, by omega, by omega, ?_, ?_, ?_, fun x hx h1 h2 => ?_, hmo, hin r (by simp only [in_relogL, in_note, true_or, or_true]) hr⟩
  · (repeat (first | rw [qE] | rw [qF _ _ _ _ (by omega)]))
  · (repeat (first | rw [qE] | rw [qF _ _ _ _ (by omega)]))
  · (repeat (first | rw [qE] | rw [qF _ _ _ _ (by omega)]))
  · (repeat (first | rw [qE] | rw [qF _ _ _ _ (by omega)]))
end
end Go.Proofs.Ytckahbnkdiamjaa
