/- Frame: a list copied (twinstepkit.CopyValues). -/
import Derived.Test.YteomehedmfemiaaRgB
set_option linter.unusedSimpArgs false
set_option linter.unusedVariables false
set_option maxRecDepth 100000
namespace Go.Proofs.Yteomehedmfemiaa
open Go.RowKit
section
variable {O : Helps} {n : Nat} {o : Tr AObj} {nx : Nat} {lg : List Nat}
set_option maxHeartbeats 8000000 in
theorem copyV_ok (hO : Clear O) {v : Value} {l : List VV} (h : SlV o nx v l) (hb : l.length ≤ 1048576) :
    Got (oCall Try.prog [] O (n + 2000000) 20 [v] ⟨o, nx, lg⟩) (NewV o nx lg l) := by
  obtain ⟨a1, c1, rfl⟩ := h.slice
  rw [y_fn (rs := [.tmp 2]) (hO _ (by decide)) Try.func20 rfl (by kernel_rfl) rfl rfl]
  repeat (first | with_reducible (first | refine n_on ?_ | refine n_seq ?_ | refine s_else ?_ | refine n_t ?_ | refine n_gt ?_ | refine d_t ?_ | refine n_nil ?_ | refine d_nil ?_ | refine n_block ?_ | refine n_skip ?_ | refine n_bon ?_ | refine n_bback ?_ | refine n_back ?_ | refine n_out ?_ | refine n_bout rfl ?_ | refine n_bfar rfl ?_ | refine n_ret ?_ | refine n_exit ?_ | refine n_label ?_ | refine n_scope ?_ | refine n_son ?_ | refine n_sback ?_) | (with_reducible (first | apply n_region | apply d_region); (simp only [JV, JU, JW, Nat.reduceAdd, Nat.zero_add]; exact rfl)) | (with_reducible (first | apply s_op | apply n_guard | apply n_cond | apply d_guard | apply d_op | apply n_fin | apply n_finb); (simp (maxDischargeDepth := 6) only [sy3.1, zY, qG, qP, qQ, qR, qS, qT, rowAt, ↓jg, ↓ji, Nat.reduceAdd, Nat.reduceEqDiff, ne_eq, jG, Nat.reduceLT, if_true, ite_true, Int.reduceLE, Int.reduceLT, Int.reduceEq, Int.reduceNeg, Int.reduceAdd, Nat.reduceSub, if_false, ite_false, fs_20.1, hb, kind_pure, kind_load, kind_fresh, kind_other, jg, ji, undef]; first | exact rfl | exact ⟨rfl, rfl, rfl, rfl⟩); try (with_reducible refine calmK_in ?_; decide +kernel)))
  rw [y_loop_eq]
  refine y_loop (I := fun q e H => ∃ k o' nx' lg' v, k + q = l.length ∧ H = (⟨o', nx', lg'⟩ : AHeap) ∧ nx ≤ nx' ∧ lg'.all (fun i => Nat.ble nx i) = true ∧ (∀ x, x < nx → o'.get x = o.get x) ∧ AccV o' nx nx' v (l.take k) ∧ e.get 0 = some (.slice a1 l.length c1) ∧ e.get 3 = some v ∧ e.get 4 = some (.int .i64 (.ofNat k))) ?_ l.length _ _ _ ?_ (by omega)
  · rintro q e H ⟨k, o', nx', lg', v, hk, rfl, hn, hlg, hold, hacc, g0, g3, g4⟩
    by_cases hlt : k < l.length
    · obtain ⟨j1, o1, cells1, et1, es1, w1, rfl, hj1, hr1, hc1⟩ := h.at hlt
      have e1 : decide (k < l.length) = true := decide_eq_true hlt
      have b1 : Nat.blt k l.length = true := by rw [Nat.blt_eq]; exact hlt
      have hw := wrap_next k (by omega)
      have hk0 : 0 ≤ Int.ofNat k := Int.natCast_nonneg k
      have hr1' : o'.get j1 = some (.row cells1 et1 es1 w1) := by rw [hold j1 hj1]; exact hr1
      have hj1' : j1 < nx' := by omega
      have htl : (l.take k).length = k := by rw [List.length_take, Nat.min_eq_left (by omega)]
      rcases hacc with ⟨rfl, hnil⟩ | ⟨j, rfl, hj2, hj3, hjr⟩
      · have hk00 : k = 0 := by rw [← htl, hnil]; rfl
        subst hk00
        rw [Nat.zero_mul, Nat.add_zero] at hc1
        repeat (first | with_reducible (first | refine n_on ?_ | refine n_seq ?_ | refine s_else ?_ | refine n_t ?_ | refine n_gt ?_ | refine d_t ?_ | refine n_nil ?_ | refine d_nil ?_ | refine n_block ?_ | refine n_skip ?_ | refine n_bon ?_ | refine n_bback ?_ | refine n_back ?_ | refine n_out ?_ | refine n_bout rfl ?_ | refine n_bfar rfl ?_ | refine n_ret ?_ | refine n_exit ?_ | refine n_label ?_ | refine n_scope ?_ | refine n_son ?_ | refine n_sback ?_) | (with_reducible (first | apply n_region | apply d_region); (simp only [JV, JU, JW, Nat.reduceAdd, Nat.zero_add]; exact rfl)) | (with_reducible (first | apply s_op | apply n_guard | apply n_cond | apply d_guard | apply d_op | apply n_fin | apply n_finb); (simp (maxDischargeDepth := 6) only [sy3.1, zY, qG, qP, qQ, qR, qS, qT, rowAt, ↓jg, ↓ji, Nat.reduceAdd, Nat.reduceEqDiff, ne_eq, jG, Nat.reduceLT, if_true, ite_true, Int.reduceLE, Int.reduceLT, Int.reduceEq, Int.reduceNeg, Int.reduceAdd, Nat.reduceSub, if_false, ite_false, fs_20.1, g0, g3, g4, e1, b1, hw, hk0, hr1', hc1, hj1', indexAt, Option.isNone_none, st_buildSliceV, build_V1, listV_nil (l[0]), kind_pure, kind_load, kind_fresh, kind_other, jg, ji, undef]; first | exact rfl | exact ⟨rfl, rfl, rfl, rfl⟩); try (with_reducible refine calmK_in ?_; decide +kernel)))
        refine ⟨q - 1, by omega, 1, _, _, _, .slice (some ⟨nx' + 10, 0, none⟩) 1 0, by omega, rfl, by omega, ?_, ?_, ?_, ?_, ?_, ?_⟩
        · simp only [all_relogL, js, ju, List.all_nil, jt, Bool.and_self, Bool.true_and, Bool.and_true, hlg]
        · intro x hx; (repeat (first | rw [qE] | rw [qF _ _ _ _ (by omega)])); exact hold x hx
        · refine .inr ⟨nx' + 10, by rw [List.length_take, Nat.min_eq_left (by omega)], by omega, by omega, ?_⟩
          rw [List.take_succ_eq_append_getElem hlt, List.take_zero, List.nil_append]
          (repeat (first | rw [qE] | rw [qF _ _ _ _ (by omega)]))
        · simp only [qC, qD, qE, qF, Tr.get_nil, ne_eq, not_false_eq_true, Nat.reduceEqDiff, g0]
        · simp only [qC, qD, qE, qF, Tr.get_nil, ne_eq, not_false_eq_true, Nat.reduceEqDiff]
        · simp only [qC, qD, qE, qF, Tr.get_nil, ne_eq, not_false_eq_true, Nat.reduceEqDiff]
      · rw [htl] at g3
        have hbj : Nat.ble nx j = true := Nat.ble_eq.mpr hj2
        have hjj1 : j ≠ j1 := by omega
        repeat (first | with_reducible (first | refine n_on ?_ | refine n_seq ?_ | refine s_else ?_ | refine n_t ?_ | refine n_gt ?_ | refine d_t ?_ | refine n_nil ?_ | refine d_nil ?_ | refine n_block ?_ | refine n_skip ?_ | refine n_bon ?_ | refine n_bback ?_ | refine n_back ?_ | refine n_out ?_ | refine n_bout rfl ?_ | refine n_bfar rfl ?_ | refine n_ret ?_ | refine n_exit ?_ | refine n_label ?_ | refine n_scope ?_ | refine n_son ?_ | refine n_sback ?_) | (with_reducible (first | apply n_region | apply d_region); (simp only [JV, JU, JW, Nat.reduceAdd, Nat.zero_add]; exact rfl)) | (with_reducible (first | apply s_op | apply n_guard | apply n_cond | apply d_guard | apply d_op | apply n_fin | apply n_finb); (simp (maxDischargeDepth := 6) only [sy3.1, zY, qG, qP, qQ, qR, qS, qT, rowAt, ↓jg, ↓ji, Nat.reduceAdd, Nat.reduceEqDiff, ne_eq, jG, Nat.reduceLT, if_true, ite_true, Int.reduceLE, Int.reduceLT, Int.reduceEq, Int.reduceNeg, Int.reduceAdd, Nat.reduceSub, if_false, ite_false, fs_20.1, g0, g3, g4, e1, b1, hw, hk0, hr1', hc1, hj1', hj3, hjr, hjj1, indexAt, Option.isNone_none, st_buildSliceV, build_V1, listV_row (l[k]) htl (by omega : k < 1048577), kind_pure, kind_load, kind_fresh, kind_other, jg, ji, undef]; first | exact rfl | exact ⟨rfl, rfl, rfl, rfl⟩); try (with_reducible refine calmK_in ?_; decide +kernel)))
        refine ⟨q - 1, by omega, k + 1, _, _, _, .slice (some ⟨nx' + 10, 0, none⟩) (k + 1) 0, by omega, rfl, by omega, ?_, ?_, ?_, ?_, ?_, ?_⟩
        · simp only [all_relogL, js, ju, List.all_nil, jt, Bool.and_self, Bool.true_and, Bool.and_true, hlg, hbj]
        · intro x hx; (repeat (first | rw [qE] | rw [qF _ _ _ _ (by omega)])); exact hold x hx
        · refine .inr ⟨nx' + 10, ?_, by omega, by omega, ?_⟩
          · rw [List.length_take, Nat.min_eq_left (by omega)]
          · rw [List.take_succ_eq_append_getElem hlt]
            (repeat (first | rw [qE] | rw [qF _ _ _ _ (by omega)]))
        · simp only [qC, qD, qE, qF, Tr.get_nil, ne_eq, not_false_eq_true, Nat.reduceEqDiff, g0]
        · simp only [qC, qD, qE, qF, Tr.get_nil, ne_eq, not_false_eq_true, Nat.reduceEqDiff]
        · simp only [qC, qD, qE, qF, Tr.get_nil, ne_eq, not_false_eq_true, Nat.reduceEqDiff]
    · have hke : k = l.length := by omega
      subst hke
      have e1 : decide (l.length < l.length) = false := decide_eq_false (by omega)
      rw [List.take_length] at hacc
      repeat (first | with_reducible (first | refine n_on ?_ | refine n_seq ?_ | refine s_else ?_ | refine n_t ?_ | refine n_gt ?_ | refine d_t ?_ | refine n_nil ?_ | refine d_nil ?_ | refine n_block ?_ | refine n_skip ?_ | refine n_bon ?_ | refine n_bback ?_ | refine n_back ?_ | refine n_out ?_ | refine n_bout rfl ?_ | refine n_bfar rfl ?_ | refine n_ret ?_ | refine n_exit ?_ | refine n_label ?_ | refine n_scope ?_ | refine n_son ?_ | refine n_sback ?_) | (with_reducible (first | apply n_region | apply d_region); (simp only [JV, JU, JW, Nat.reduceAdd, Nat.zero_add]; exact rfl)) | (with_reducible (first | apply s_op | apply n_guard | apply n_cond | apply d_guard | apply d_op | apply n_fin | apply n_finb); (simp (maxDischargeDepth := 6) only [sy3.1, zY, qG, qP, qQ, qR, qS, qT, rowAt, ↓jg, ↓ji, Nat.reduceAdd, Nat.reduceEqDiff, ne_eq, jG, Nat.reduceLT, if_true, ite_true, Int.reduceLE, Int.reduceLT, Int.reduceEq, Int.reduceNeg, Int.reduceAdd, Nat.reduceSub, if_false, ite_false, fs_20.1, e1, g0, g3, g4, kind_pure, kind_load, kind_fresh, kind_other, jg, ji, undef]; first | exact rfl | exact ⟨rfl, rfl, rfl, rfl⟩); try (with_reducible refine calmK_in ?_; decide +kernel)))
      rcases hacc with ⟨rfl, rfl⟩ | ⟨j, rfl, hj2, hj3, hjr⟩
      · rw [Ja (by simp only [all_relogL, js, ju, List.all_nil, jt, Bool.and_self, Bool.true_and, Bool.and_true, hlg]) (by rfl)]
        exact ⟨_, _, _, rfl, Nat.le_refl _, fun _ _ => rfl, .inl ⟨rfl, rfl⟩⟩
      · rw [leave_newR (by simp only [all_relogL, js, ju, List.all_nil, jt, Bool.and_self, Bool.true_and, Bool.and_true, hlg]) (show lowV nx (.slice (some ⟨j, 0, none⟩) l.length 0) = false from blt_new hj2)]
        exact ⟨_, _, _, rfl, by omega, hold, .inr ⟨j, rfl, hj2, by omega, hjr⟩⟩
  · refine ⟨0, o, _, _, .slice none 0 0, by omega, rfl, by omega, ?_, fun x hx => rfl, .inl ⟨rfl, rfl⟩, ?_, ?_, ?_⟩
    · simp only [all_relogL, js, ju, List.all_nil, jt, Bool.and_self]
    · simp only [qG, qC, qD, qE, qF, Tr.get_nil, ne_eq, not_false_eq_true, Nat.reduceEqDiff]
    · simp only [qG, qC, qD, qE, qF, Tr.get_nil, ne_eq, not_false_eq_true, Nat.reduceEqDiff]
    · simp only [qG, qC, qD, qE, qF, Tr.get_nil, ne_eq, not_false_eq_true, Nat.reduceEqDiff]; rfl
end
end Go.Proofs.Yteomehedmfemiaa
