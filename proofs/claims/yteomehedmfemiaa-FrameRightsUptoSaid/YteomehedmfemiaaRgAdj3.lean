/- Frame: the document's Adjust. -/
import Derived.Test.YteomehedmfemiaaRgAdj2
set_option linter.unusedSimpArgs false
set_option linter.unusedVariables false
set_option maxRecDepth 100000
namespace Go.Proofs.Yteomehedmfemiaa
open Go.RowKit
theorem loop_cutR {P : Program} {call : CallFn} {fuel i : Nat} {c : Code} {env : Tr Value} {H : AHeap} {Q : St → Prop} (I : Tr Value → AHeap → Prop) (h1 : Got (rCode P call fuel (.loop c) env H) fun s => ∃ e h, s = (Way.out i, e, h) ∧ I e h) (h2 : ∀ e h, I e h → Q (.out i, e, h)) : Got (rCode P call fuel (.loop c) env H) Q :=
  h1.mono (by rintro s ⟨e, h, rfl, hi⟩; exact h2 e h hi)
/-- how many are taken over -/
def adjK (n : Nat) (want : Int) : Nat := if want < 0 then n else min n want.toNat
section
variable {O : Helps} {n : Nat} {o : Tr AObj} {nx : Nat} {lg : List Nat}
set_option maxHeartbeats 16000000 in
theorem refadj_ok (hO : Clear O) {v : Value} {l : List VV} (h : SlV o nx v l) (hb : l.length ≤ 1048576) {want : Int} (hw : want ≤ 500) : Got (oCall Try.prog [] O (n + 2000000) 16 [v, .int .i64 want] ⟨o, nx, lg⟩) (NewV o nx lg (adjL l want)) := by
  obtain ⟨a1, c1, rfl⟩ := h.slice
  rw [y_fn (rs := [.tmp 4]) (hO _ (by decide)) Try.func16 rfl (by kernel_rfl) rfl rfl]
  repeat (first | with_reducible (first | refine n_on ?_ | refine n_seq ?_ | refine s_else ?_ | refine n_t ?_ | refine n_gt ?_ | refine d_t ?_ | refine n_nil ?_ | refine d_nil ?_ | refine n_block ?_ | refine n_skip ?_ | refine n_bon ?_ | refine n_bback ?_ | refine n_back ?_ | refine n_out ?_ | refine n_bout rfl ?_ | refine n_bfar rfl ?_ | refine n_ret ?_ | refine n_exit ?_ | refine n_label ?_ | refine n_scope ?_ | refine n_son ?_ | refine n_sback ?_) | (with_reducible (first | apply n_region | apply d_region); (simp only [JV, JU, JW, Nat.reduceAdd, Nat.zero_add]; exact rfl)) | (with_reducible (first | apply s_op | apply n_guard | apply n_cond | apply d_guard | apply d_op | apply n_fin | apply n_finb); (simp (maxDischargeDepth := 6) only [sy3.1, zY, qG, qP, qQ, qR, qS, qT, rowAt, ↓jg, ↓ji, Nat.reduceAdd, Nat.reduceEqDiff, ne_eq, jG, Nat.reduceLT, if_true, ite_true, Int.reduceLE, Int.reduceLT, Int.reduceEq, Int.reduceNeg, Int.reduceAdd, Nat.reduceSub, if_false, ite_false, fs_16.1, hb, kind_pure, kind_load, kind_fresh, kind_other, jg, ji, undef]; first | exact rfl | exact ⟨rfl, rfl, rfl, rfl⟩); try (with_reducible refine calmK_in ?_; decide +kernel)))
  refine loop_cutR (i := 0) (I := fun e H => ∃ o' nx' lg' v, H = (⟨o', nx', lg'⟩ : AHeap) ∧ nx ≤ nx' ∧ lg'.all (fun i => Nat.ble nx i) = true ∧ (∀ x, x < nx → o'.get x = o.get x) ∧ AccV o' nx nx' v (l.take (adjK l.length want)) ∧ e.get 1 = some (.int .i64 want) ∧ e.get 5 = some v) ?_ ?_
  · rw [y_loop_eq]
    refine y_loop (I := fun q e H => ∃ k o' nx' lg' v, k + q = adjK l.length want ∧ H = (⟨o', nx', lg'⟩ : AHeap) ∧ nx ≤ nx' ∧ lg'.all (fun i => Nat.ble nx i) = true ∧ (∀ x, x < nx → o'.get x = o.get x) ∧ AccV o' nx nx' v (l.take k) ∧ e.get 0 = some (.slice a1 l.length c1) ∧ e.get 1 = some (.int .i64 want) ∧ e.get 5 = some v ∧ e.get 6 = some (.int .i64 (.ofNat k))) ?_ (adjK l.length want) _ _ _ ?_ (by unfold adjK; split <;> omega)
    · rintro q e H ⟨k, o', nx', lg', v, hk, rfl, hn, hlg, hold, hacc, g0, g1, g5, g6⟩
      have hkl : k ≤ l.length := by unfold adjK at hk; split at hk <;> omega
      by_cases hlt : k < adjK l.length want
      · have hkl2 : k < l.length := by unfold adjK at hlt; split at hlt <;> omega
        obtain ⟨j1, o1, cells1, et1, es1, w1, rfl, hj1, hr1, hc1⟩ := h.at hkl2
        have e1 : decide (k < l.length) = true := decide_eq_true hkl2
        have b1 : Nat.blt k l.length = true := by rw [Nat.blt_eq]; exact hkl2
        have hw1 := wrap_next k (by omega)
        have hk0 : 0 ≤ Int.ofNat k := Int.natCast_nonneg k
        have hr1' : o'.get j1 = some (.row cells1 et1 es1 w1) := by rw [hold j1 hj1]; exact hr1
        have hj1' : j1 < nx' := by omega
        have htl : (l.take k).length = k := by rw [List.length_take, Nat.min_eq_left (by omega)]
        by_cases hneg : want < 0
        · have d1 : decide (want < 0) = true := decide_eq_true hneg
          rcases hacc with ⟨rfl, hnil⟩ | ⟨j, rfl, hj2, hj3, hjr⟩
          · have hk00 : k = 0 := by rw [← htl, hnil]; rfl
            subst hk00
            rw [Nat.zero_mul, Nat.add_zero] at hc1
            repeat (first | with_reducible (first | refine n_on ?_ | refine n_seq ?_ | refine s_else ?_ | refine n_t ?_ | refine n_gt ?_ | refine d_t ?_ | refine n_nil ?_ | refine d_nil ?_ | refine n_block ?_ | refine n_skip ?_ | refine n_bon ?_ | refine n_bback ?_ | refine n_back ?_ | refine n_out ?_ | refine n_bout rfl ?_ | refine n_bfar rfl ?_ | refine n_ret ?_ | refine n_exit ?_ | refine n_label ?_ | refine n_scope ?_ | refine n_son ?_ | refine n_sback ?_) | (with_reducible (first | apply n_region | apply d_region); (simp only [JV, JU, JW, Nat.reduceAdd, Nat.zero_add]; exact rfl)) | (with_reducible (first | apply s_op | apply n_guard | apply n_cond | apply d_guard | apply d_op | apply n_fin | apply n_finb); (simp (maxDischargeDepth := 6) only [sy3.1, zY, qG, qP, qQ, qR, qS, qT, rowAt, ↓jg, ↓ji, Nat.reduceAdd, Nat.reduceEqDiff, ne_eq, jG, Nat.reduceLT, if_true, ite_true, Int.reduceLE, Int.reduceLT, Int.reduceEq, Int.reduceNeg, Int.reduceAdd, Nat.reduceSub, if_false, ite_false, fs_16.1, g0, g1, g5, g6, e1, d1, b1, hw1, hk0, hr1', hc1, hj1', indexAt, Option.isNone_none, st_buildSliceV, build_V1, listV_nil (l[0]), kind_pure, kind_load, kind_fresh, kind_other, jg, ji, undef]; first | exact rfl | exact ⟨rfl, rfl, rfl, rfl⟩); try (with_reducible refine calmK_in ?_; decide +kernel)))
            refine ⟨q - 1, by omega, 1, _, _, _, .slice (some ⟨nx' + 19, 0, none⟩) 1 0, by omega, rfl, by omega, ?_, ?_, ?_, ?_, ?_, ?_, ?_⟩
            · simp only [all_relogL, js, ju, List.all_nil, jt, Bool.and_self, Bool.true_and, Bool.and_true, hlg]
            · intro x hx; (repeat (first | rw [qE] | rw [qF _ _ _ _ (by omega)])); exact hold x hx
            · refine .inr ⟨nx' + 19, by rw [List.length_take, Nat.min_eq_left (by omega)], by omega, by omega, ?_⟩
              rw [List.take_succ_eq_append_getElem hkl2, List.take_zero, List.nil_append]
              (repeat (first | rw [qE] | rw [qF _ _ _ _ (by omega)]))
            · simp only [qC, qD, qE, qF, Tr.get_nil, ne_eq, not_false_eq_true, Nat.reduceEqDiff, g0]
            · simp only [qC, qD, qE, qF, Tr.get_nil, ne_eq, not_false_eq_true, Nat.reduceEqDiff, g1]
            · simp only [qC, qD, qE, qF, Tr.get_nil, ne_eq, not_false_eq_true, Nat.reduceEqDiff]
            · simp only [qC, qD, qE, qF, Tr.get_nil, ne_eq, not_false_eq_true, Nat.reduceEqDiff]
          · rw [htl] at g5
            have hbj : Nat.ble nx j = true := Nat.ble_eq.mpr hj2
            have hjj1 : j ≠ j1 := by omega
            repeat (first | with_reducible (first | refine n_on ?_ | refine n_seq ?_ | refine s_else ?_ | refine n_t ?_ | refine n_gt ?_ | refine d_t ?_ | refine n_nil ?_ | refine d_nil ?_ | refine n_block ?_ | refine n_skip ?_ | refine n_bon ?_ | refine n_bback ?_ | refine n_back ?_ | refine n_out ?_ | refine n_bout rfl ?_ | refine n_bfar rfl ?_ | refine n_ret ?_ | refine n_exit ?_ | refine n_label ?_ | refine n_scope ?_ | refine n_son ?_ | refine n_sback ?_) | (with_reducible (first | apply n_region | apply d_region); (simp only [JV, JU, JW, Nat.reduceAdd, Nat.zero_add]; exact rfl)) | (with_reducible (first | apply s_op | apply n_guard | apply n_cond | apply d_guard | apply d_op | apply n_fin | apply n_finb); (simp (maxDischargeDepth := 6) only [sy3.1, zY, qG, qP, qQ, qR, qS, qT, rowAt, ↓jg, ↓ji, Nat.reduceAdd, Nat.reduceEqDiff, ne_eq, jG, Nat.reduceLT, if_true, ite_true, Int.reduceLE, Int.reduceLT, Int.reduceEq, Int.reduceNeg, Int.reduceAdd, Nat.reduceSub, if_false, ite_false, fs_16.1, g0, g1, g5, g6, e1, d1, b1, hw1, hk0, hr1', hc1, hj1', hj3, hjr, hjj1, indexAt, Option.isNone_none, st_buildSliceV, build_V1, listV_row (l[k]) htl (by omega : k < 1048577), kind_pure, kind_load, kind_fresh, kind_other, jg, ji, undef]; first | exact rfl | exact ⟨rfl, rfl, rfl, rfl⟩); try (with_reducible refine calmK_in ?_; decide +kernel)))
            refine ⟨q - 1, by omega, k + 1, _, _, _, .slice (some ⟨nx' + 19, 0, none⟩) (k + 1) 0, by omega, rfl, by omega, ?_, ?_, ?_, ?_, ?_, ?_, ?_⟩
            · simp only [all_relogL, js, ju, List.all_nil, jt, Bool.and_self, Bool.true_and, Bool.and_true, hlg, hbj]
            · intro x hx; (repeat (first | rw [qE] | rw [qF _ _ _ _ (by omega)])); exact hold x hx
            · refine .inr ⟨nx' + 19, ?_, by omega, by omega, ?_⟩
              · rw [List.length_take, Nat.min_eq_left (by omega)]
              · rw [List.take_succ_eq_append_getElem hkl2]
                (repeat (first | rw [qE] | rw [qF _ _ _ _ (by omega)]))
            · simp only [qC, qD, qE, qF, Tr.get_nil, ne_eq, not_false_eq_true, Nat.reduceEqDiff, g0]
            · simp only [qC, qD, qE, qF, Tr.get_nil, ne_eq, not_false_eq_true, Nat.reduceEqDiff, g1]
            · simp only [qC, qD, qE, qF, Tr.get_nil, ne_eq, not_false_eq_true, Nat.reduceEqDiff]
            · simp only [qC, qD, qE, qF, Tr.get_nil, ne_eq, not_false_eq_true, Nat.reduceEqDiff]
        · have d1 : decide (want < 0) = false := decide_eq_false hneg
          have d2 : decide (Int.ofNat k < want) = true := decide_eq_true (by unfold adjK at hlt; rw [if_neg hneg] at hlt; simp only [Int.ofNat_eq_natCast]; omega)
          rcases hacc with ⟨rfl, hnil⟩ | ⟨j, rfl, hj2, hj3, hjr⟩
          · have hk00 : k = 0 := by rw [← htl, hnil]; rfl
            subst hk00
            rw [Nat.zero_mul, Nat.add_zero] at hc1
            repeat (first | with_reducible (first | refine n_on ?_ | refine n_seq ?_ | refine s_else ?_ | refine n_t ?_ | refine n_gt ?_ | refine d_t ?_ | refine n_nil ?_ | refine d_nil ?_ | refine n_block ?_ | refine n_skip ?_ | refine n_bon ?_ | refine n_bback ?_ | refine n_back ?_ | refine n_out ?_ | refine n_bout rfl ?_ | refine n_bfar rfl ?_ | refine n_ret ?_ | refine n_exit ?_ | refine n_label ?_ | refine n_scope ?_ | refine n_son ?_ | refine n_sback ?_) | (with_reducible (first | apply n_region | apply d_region); (simp only [JV, JU, JW, Nat.reduceAdd, Nat.zero_add]; exact rfl)) | (with_reducible (first | apply s_op | apply n_guard | apply n_cond | apply d_guard | apply d_op | apply n_fin | apply n_finb); (simp (maxDischargeDepth := 6) only [sy3.1, zY, qG, qP, qQ, qR, qS, qT, rowAt, ↓jg, ↓ji, Nat.reduceAdd, Nat.reduceEqDiff, ne_eq, jG, Nat.reduceLT, if_true, ite_true, Int.reduceLE, Int.reduceLT, Int.reduceEq, Int.reduceNeg, Int.reduceAdd, Nat.reduceSub, if_false, ite_false, fs_16.1, g0, g1, g5, g6, e1, d1, d2, b1, hw1, hk0, hr1', hc1, hj1', indexAt, Option.isNone_none, st_buildSliceV, build_V1, listV_nil (l[0]), kind_pure, kind_load, kind_fresh, kind_other, jg, ji, undef]; first | exact rfl | exact ⟨rfl, rfl, rfl, rfl⟩); try (with_reducible refine calmK_in ?_; decide +kernel)))
            refine ⟨q - 1, by omega, 1, _, _, _, .slice (some ⟨nx' + 19, 0, none⟩) 1 0, by omega, rfl, by omega, ?_, ?_, ?_, ?_, ?_, ?_, ?_⟩
            · simp only [all_relogL, js, ju, List.all_nil, jt, Bool.and_self, Bool.true_and, Bool.and_true, hlg]
            · intro x hx; (repeat (first | rw [qE] | rw [qF _ _ _ _ (by omega)])); exact hold x hx
            · refine .inr ⟨nx' + 19, by rw [List.length_take, Nat.min_eq_left (by omega)], by omega, by omega, ?_⟩
              rw [List.take_succ_eq_append_getElem hkl2, List.take_zero, List.nil_append]
              (repeat (first | rw [qE] | rw [qF _ _ _ _ (by omega)]))
            · simp only [qC, qD, qE, qF, Tr.get_nil, ne_eq, not_false_eq_true, Nat.reduceEqDiff, g0]
            · simp only [qC, qD, qE, qF, Tr.get_nil, ne_eq, not_false_eq_true, Nat.reduceEqDiff, g1]
            · simp only [qC, qD, qE, qF, Tr.get_nil, ne_eq, not_false_eq_true, Nat.reduceEqDiff]
            · simp only [qC, qD, qE, qF, Tr.get_nil, ne_eq, not_false_eq_true, Nat.reduceEqDiff]
          · rw [htl] at g5
            have hbj : Nat.ble nx j = true := Nat.ble_eq.mpr hj2
            have hjj1 : j ≠ j1 := by omega
            repeat (first | with_reducible (first | refine n_on ?_ | refine n_seq ?_ | refine s_else ?_ | refine n_t ?_ | refine n_gt ?_ | refine d_t ?_ | refine n_nil ?_ | refine d_nil ?_ | refine n_block ?_ | refine n_skip ?_ | refine n_bon ?_ | refine n_bback ?_ | refine n_back ?_ | refine n_out ?_ | refine n_bout rfl ?_ | refine n_bfar rfl ?_ | refine n_ret ?_ | refine n_exit ?_ | refine n_label ?_ | refine n_scope ?_ | refine n_son ?_ | refine n_sback ?_) | (with_reducible (first | apply n_region | apply d_region); (simp only [JV, JU, JW, Nat.reduceAdd, Nat.zero_add]; exact rfl)) | (with_reducible (first | apply s_op | apply n_guard | apply n_cond | apply d_guard | apply d_op | apply n_fin | apply n_finb); (simp (maxDischargeDepth := 6) only [sy3.1, zY, qG, qP, qQ, qR, qS, qT, rowAt, ↓jg, ↓ji, Nat.reduceAdd, Nat.reduceEqDiff, ne_eq, jG, Nat.reduceLT, if_true, ite_true, Int.reduceLE, Int.reduceLT, Int.reduceEq, Int.reduceNeg, Int.reduceAdd, Nat.reduceSub, if_false, ite_false, fs_16.1, g0, g1, g5, g6, e1, d1, d2, b1, hw1, hk0, hr1', hc1, hj1', hj3, hjr, hjj1, indexAt, Option.isNone_none, st_buildSliceV, build_V1, listV_row (l[k]) htl (by omega : k < 1048577), kind_pure, kind_load, kind_fresh, kind_other, jg, ji, undef]; first | exact rfl | exact ⟨rfl, rfl, rfl, rfl⟩); try (with_reducible refine calmK_in ?_; decide +kernel)))
            refine ⟨q - 1, by omega, k + 1, _, _, _, .slice (some ⟨nx' + 19, 0, none⟩) (k + 1) 0, by omega, rfl, by omega, ?_, ?_, ?_, ?_, ?_, ?_, ?_⟩
            · simp only [all_relogL, js, ju, List.all_nil, jt, Bool.and_self, Bool.true_and, Bool.and_true, hlg, hbj]
            · intro x hx; (repeat (first | rw [qE] | rw [qF _ _ _ _ (by omega)])); exact hold x hx
            · refine .inr ⟨nx' + 19, ?_, by omega, by omega, ?_⟩
              · rw [List.length_take, Nat.min_eq_left (by omega)]
              · rw [List.take_succ_eq_append_getElem hkl2]
                (repeat (first | rw [qE] | rw [qF _ _ _ _ (by omega)]))
            · simp only [qC, qD, qE, qF, Tr.get_nil, ne_eq, not_false_eq_true, Nat.reduceEqDiff, g0]
            · simp only [qC, qD, qE, qF, Tr.get_nil, ne_eq, not_false_eq_true, Nat.reduceEqDiff, g1]
            · simp only [qC, qD, qE, qF, Tr.get_nil, ne_eq, not_false_eq_true, Nat.reduceEqDiff]
            · simp only [qC, qD, qE, qF, Tr.get_nil, ne_eq, not_false_eq_true, Nat.reduceEqDiff]
      · have hke : k = adjK l.length want := by omega
        have fin : ∀ e' nx2, nx' ≤ nx2 → e'.get 1 = some (.int .i64 want) → e'.get 5 = some v → ∃ e h, ((Way.out 0, e', (⟨o', nx2, lg'⟩ : AHeap)) : St) = (Way.out 0, e, h) ∧ ∃ o' nx' lg' v, h = (⟨o', nx', lg'⟩ : AHeap) ∧ nx ≤ nx' ∧ lg'.all (fun i => Nat.ble nx i) = true ∧ (∀ x, x < nx → o'.get x = o.get x) ∧ AccV o' nx nx' v (l.take (adjK l.length want)) ∧ e.get 1 = some (.int .i64 want) ∧ e.get 5 = some v := fun e' nx2 h2 h3 h4 =>
          ⟨_, _, rfl, o', nx2, lg', v, rfl, by omega, hlg, hold, by rw [← hke]; exact hacc.keep (Nat.le_refl _) h2 fun _ _ _ => rfl, h3, h4⟩
        by_cases hkl2 : k < l.length
        · have e1 : decide (k < l.length) = true := decide_eq_true hkl2
          have hneg : ¬ want < 0 := fun h => by unfold adjK at hke; rw [if_pos h] at hke; omega
          have d1 : decide (want < 0) = false := decide_eq_false hneg
          have d2 : decide (Int.ofNat k < want) = false := decide_eq_false (by unfold adjK at hke; rw [if_neg hneg] at hke; simp only [Int.ofNat_eq_natCast]; omega)
          repeat (first | with_reducible (first | refine n_on ?_ | refine n_seq ?_ | refine s_else ?_ | refine n_t ?_ | refine n_gt ?_ | refine d_t ?_ | refine n_nil ?_ | refine d_nil ?_ | refine n_block ?_ | refine n_skip ?_ | refine n_bon ?_ | refine n_bback ?_ | refine n_back ?_ | refine n_out ?_ | refine n_bout rfl ?_ | refine n_bfar rfl ?_ | refine n_ret ?_ | refine n_exit ?_ | refine n_label ?_ | refine n_scope ?_ | refine n_son ?_ | refine n_sback ?_) | (with_reducible (first | apply n_region | apply d_region); (simp only [JV, JU, JW, Nat.reduceAdd, Nat.zero_add]; exact rfl)) | (with_reducible (first | apply s_op | apply n_guard | apply n_cond | apply d_guard | apply d_op | apply n_fin | apply n_finb); (simp (maxDischargeDepth := 6) only [sy3.1, zY, qG, qP, qQ, qR, qS, qT, rowAt, ↓jg, ↓ji, Nat.reduceAdd, Nat.reduceEqDiff, ne_eq, jG, Nat.reduceLT, if_true, ite_true, Int.reduceLE, Int.reduceLT, Int.reduceEq, Int.reduceNeg, Int.reduceAdd, Nat.reduceSub, if_false, ite_false, fs_16.1, g0, g1, g5, g6, e1, d1, d2, kind_pure, kind_load, kind_fresh, kind_other, jg, ji, undef]; first | exact rfl | exact ⟨rfl, rfl, rfl, rfl⟩); try (with_reducible refine calmK_in ?_; decide +kernel)))
          exact fin _ _ (by omega) (by simp only [qC, qD, qE, qF, Tr.get_nil, ne_eq, not_false_eq_true, Nat.reduceEqDiff, g1]) (by simp only [qC, qD, qE, qF, Tr.get_nil, ne_eq, not_false_eq_true, Nat.reduceEqDiff, g5])
        · have e1 : decide (k < l.length) = false := decide_eq_false hkl2
          repeat (first | with_reducible (first | refine n_on ?_ | refine n_seq ?_ | refine s_else ?_ | refine n_t ?_ | refine n_gt ?_ | refine d_t ?_ | refine n_nil ?_ | refine d_nil ?_ | refine n_block ?_ | refine n_skip ?_ | refine n_bon ?_ | refine n_bback ?_ | refine n_back ?_ | refine n_out ?_ | refine n_bout rfl ?_ | refine n_bfar rfl ?_ | refine n_ret ?_ | refine n_exit ?_ | refine n_label ?_ | refine n_scope ?_ | refine n_son ?_ | refine n_sback ?_) | (with_reducible (first | apply n_region | apply d_region); (simp only [JV, JU, JW, Nat.reduceAdd, Nat.zero_add]; exact rfl)) | (with_reducible (first | apply s_op | apply n_guard | apply n_cond | apply d_guard | apply d_op | apply n_fin | apply n_finb); (simp (maxDischargeDepth := 6) only [sy3.1, zY, qG, qP, qQ, qR, qS, qT, rowAt, ↓jg, ↓ji, Nat.reduceAdd, Nat.reduceEqDiff, ne_eq, jG, Nat.reduceLT, if_true, ite_true, Int.reduceLE, Int.reduceLT, Int.reduceEq, Int.reduceNeg, Int.reduceAdd, Nat.reduceSub, if_false, ite_false, fs_16.1, g0, g1, g5, g6, e1, kind_pure, kind_load, kind_fresh, kind_other, jg, ji, undef]; first | exact rfl | exact ⟨rfl, rfl, rfl, rfl⟩); try (with_reducible refine calmK_in ?_; decide +kernel)))
          exact fin _ _ (by omega) (by simp only [qC, qD, qE, qF, Tr.get_nil, ne_eq, not_false_eq_true, Nat.reduceEqDiff, g1]) (by simp only [qC, qD, qE, qF, Tr.get_nil, ne_eq, not_false_eq_true, Nat.reduceEqDiff, g5])
    · refine ⟨0, o, _, _, .slice none 0 0, by omega, rfl, by omega, ?_, fun x hx => rfl, .inl ⟨rfl, rfl⟩, ?_, ?_, ?_, ?_⟩
      · simp only [all_relogL, js, ju, List.all_nil, jt, Bool.and_self]
      · simp only [qG, qC, qD, qE, qF, Tr.get_nil, ne_eq, not_false_eq_true, Nat.reduceEqDiff]
      · simp only [qG, qC, qD, qE, qF, Tr.get_nil, ne_eq, not_false_eq_true, Nat.reduceEqDiff]
      · simp only [qG, qC, qD, qE, qF, Tr.get_nil, ne_eq, not_false_eq_true, Nat.reduceEqDiff]
      · simp only [qG, qC, qD, qE, qF, Tr.get_nil, ne_eq, not_false_eq_true, Nat.reduceEqDiff]; rfl
  · rintro e H ⟨o', nx', lg', v, rfl, hn, hlg, hold, hacc, g1, g5⟩
    have hK : (l.take (adjK l.length want)).length = adjK l.length want := by rw [List.length_take, Nat.min_eq_left (by unfold adjK; split <;> omega)]
    generalize hL : l.take (adjK l.length want) = L at hacc hK
    have hadj : adjL l want = L ++ List.replicate (want.toNat - L.length) (0, 0) := by
      rw [hK, ← hL]
      unfold adjL adjK
      by_cases hneg : want < 0
      · rw [if_pos hneg, if_pos hneg, List.take_length, show want.toNat - l.length = 0 by omega]; simp
      · rw [if_neg hneg, if_neg hneg]
        rcases Nat.le_total l.length want.toNat with h1 | h1
        · rw [Nat.min_eq_left h1, List.take_length, List.take_of_length_le h1]
        · rw [Nat.min_eq_right h1, show want.toNat - l.length = 0 by omega, Nat.sub_self]
    have hLb : L.length ≤ 1048576 := by rw [hK]; unfold adjK; split <;> omega
    rw [hadj]
    repeat (first | with_reducible (first | refine n_on ?_ | refine n_seq ?_ | refine s_else ?_ | refine n_t ?_ | refine n_gt ?_ | refine d_t ?_ | refine n_nil ?_ | refine d_nil ?_ | refine n_block ?_ | refine n_skip ?_ | refine n_bon ?_ | refine n_bback ?_ | refine n_back ?_ | refine n_out ?_ | refine n_bout rfl ?_ | refine n_bfar rfl ?_ | refine n_ret ?_ | refine n_exit ?_ | refine n_label ?_ | refine n_scope ?_ | refine n_son ?_ | refine n_sback ?_) | (with_reducible (first | apply n_region | apply d_region); (simp only [JV, JU, JW, Nat.reduceAdd, Nat.zero_add]; exact rfl)) | (with_reducible (first | apply s_op | apply n_guard | apply n_cond | apply d_guard | apply d_op | apply n_fin | apply n_finb); (simp (maxDischargeDepth := 6) only [sy3.1, zY, qG, qP, qQ, qR, qS, qT, rowAt, ↓jg, ↓ji, Nat.reduceAdd, Nat.reduceEqDiff, ne_eq, jG, Nat.reduceLT, if_true, ite_true, Int.reduceLE, Int.reduceLT, Int.reduceEq, Int.reduceNeg, Int.reduceAdd, Nat.reduceSub, if_false, ite_false, fs_16.1, hb, kind_pure, kind_load, kind_fresh, kind_other, jg, ji, undef]; first | exact rfl | exact ⟨rfl, rfl, rfl, rfl⟩); try (with_reducible refine calmK_in ?_; decide +kernel)))
    refine loop_cutR (i := 2) (I := fun e H => ∃ o' nx' lg' v, H = (⟨o', nx', lg'⟩ : AHeap) ∧ nx ≤ nx' ∧ lg'.all (fun i => Nat.ble nx i) = true ∧ (∀ x, x < nx → o'.get x = o.get x) ∧ AccV o' nx nx' v (L ++ List.replicate (want.toNat - L.length) (0, 0)) ∧ e.get 5 = some v) ?_ ?_
    · rw [y_loop_eq]
      refine y_loop (I := fun q e H => ∃ k o' nx' lg' v, k + q = want.toNat - L.length ∧ H = (⟨o', nx', lg'⟩ : AHeap) ∧ nx ≤ nx' ∧ lg'.all (fun i => Nat.ble nx i) = true ∧ (∀ x, x < nx → o'.get x = o.get x) ∧ AccV o' nx nx' v (L ++ List.replicate k (0, 0)) ∧ e.get 1 = some (.int .i64 want) ∧ e.get 5 = some v) ?_ (want.toNat - L.length) _ _ _ ?_ (by omega)
      · rintro q e H ⟨k, o', nx', lg', v, hk, rfl, hn, hlg, hold, hacc, g1, g5⟩
        have hll : (L ++ List.replicate k (0, 0)).length = L.length + k := by rw [List.length_append, List.length_replicate]
        have fin : ∀ e' nx2, nx' ≤ nx2 → k = want.toNat - L.length → e'.get 5 = some v → ∃ e h, ((Way.out 2, e', (⟨o', nx2, lg'⟩ : AHeap)) : St) = (Way.out 2, e, h) ∧ ∃ o' nx' lg' v, h = (⟨o', nx', lg'⟩ : AHeap) ∧ nx ≤ nx' ∧ lg'.all (fun i => Nat.ble nx i) = true ∧ (∀ x, x < nx → o'.get x = o.get x) ∧ AccV o' nx nx' v (L ++ List.replicate (want.toNat - L.length) (0, 0)) ∧ e.get 5 = some v := fun e' nx2 h2 h3 h4 =>
          ⟨_, _, rfl, o', nx2, lg', v, rfl, by omega, hlg, hold, by rw [← h3]; exact hacc.keep (Nat.le_refl _) h2 fun _ _ _ => rfl, h4⟩
        by_cases hlt : k < want.toNat - L.length
        · have hnext : L ++ List.replicate (k + 1) (0, 0) = (L ++ List.replicate k (0, 0)) ++ [((0, 0) : VV)] := by rw [List.replicate_succ', List.append_assoc]
          rcases hacc with ⟨rfl, hnil⟩ | ⟨j, rfl, hj2, hj3, hjr⟩
          · have e1 : decide (Int.ofNat 0 < want) = true := decide_eq_true (by simp only [Int.ofNat_eq_natCast]; omega)
            rw [hnil, List.nil_append] at hnext
            repeat (first | with_reducible (first | refine n_on ?_ | refine n_seq ?_ | refine s_else ?_ | refine n_t ?_ | refine n_gt ?_ | refine d_t ?_ | refine n_nil ?_ | refine d_nil ?_ | refine n_block ?_ | refine n_skip ?_ | refine n_bon ?_ | refine n_bback ?_ | refine n_back ?_ | refine n_out ?_ | refine n_bout rfl ?_ | refine n_bfar rfl ?_ | refine n_ret ?_ | refine n_exit ?_ | refine n_label ?_ | refine n_scope ?_ | refine n_son ?_ | refine n_sback ?_) | (with_reducible (first | apply n_region | apply d_region); (simp only [JV, JU, JW, Nat.reduceAdd, Nat.zero_add]; exact rfl)) | (with_reducible (first | apply s_op | apply n_guard | apply n_cond | apply d_guard | apply d_op | apply n_fin | apply n_finb); (simp (maxDischargeDepth := 6) only [sy3.1, zY, qG, qP, qQ, qR, qS, qT, rowAt, ↓jg, ↓ji, Nat.reduceAdd, Nat.reduceEqDiff, ne_eq, jG, Nat.reduceLT, if_true, ite_true, Int.reduceLE, Int.reduceLT, Int.reduceEq, Int.reduceNeg, Int.reduceAdd, Nat.reduceSub, if_false, ite_false, fs_16.1, g1, g5, e1, st_buildSliceV, build_V1, listV_nil (0, 0), kind_pure, kind_load, kind_fresh, kind_other, jg, ji, undef]; first | exact rfl | exact ⟨rfl, rfl, rfl, rfl⟩); try (with_reducible refine calmK_in ?_; decide +kernel)))
            refine ⟨q - 1, by omega, k + 1, _, _, _, .slice (some ⟨nx' + 7, 0, none⟩) 1 0, by omega, rfl, by omega, ?_, ?_, ?_, ?_, ?_⟩
            · simp only [all_relogL, js, ju, List.all_nil, jt, Bool.and_self, Bool.true_and, Bool.and_true, hlg]
            · intro x hx; (repeat (first | rw [qE] | rw [qF _ _ _ _ (by omega)])); exact hold x hx
            · rw [hnext]
              exact .inr ⟨nx' + 7, rfl, by omega, by omega, by (repeat (first | rw [qE] | rw [qF _ _ _ _ (by omega)]))⟩
            · simp only [qC, qD, qE, qF, Tr.get_nil, ne_eq, not_false_eq_true, Nat.reduceEqDiff, g1]
            · simp only [qC, qD, qE, qF, Tr.get_nil, ne_eq, not_false_eq_true, Nat.reduceEqDiff]
          · have e1 : decide (Int.ofNat (L ++ List.replicate k (0, 0)).length < want) = true := decide_eq_true (by rw [hll]; simp only [Int.ofNat_eq_natCast]; omega)
            have hbj : Nat.ble nx j = true := Nat.ble_eq.mpr hj2
            have hlr := fun m hm => listV_row (0, 0) (l := L ++ List.replicate k (0, 0)) (k := m) hm
            generalize L ++ List.replicate k (0, 0) = M at hjr hll e1 hnext g5 hlr
            have hlr2 := hlr M.length rfl (by omega)
            repeat (first | with_reducible (first | refine n_on ?_ | refine n_seq ?_ | refine s_else ?_ | refine n_t ?_ | refine n_gt ?_ | refine d_t ?_ | refine n_nil ?_ | refine d_nil ?_ | refine n_block ?_ | refine n_skip ?_ | refine n_bon ?_ | refine n_bback ?_ | refine n_back ?_ | refine n_out ?_ | refine n_bout rfl ?_ | refine n_bfar rfl ?_ | refine n_ret ?_ | refine n_exit ?_ | refine n_label ?_ | refine n_scope ?_ | refine n_son ?_ | refine n_sback ?_) | (with_reducible (first | apply n_region | apply d_region); (simp only [JV, JU, JW, Nat.reduceAdd, Nat.zero_add]; exact rfl)) | (with_reducible (first | apply s_op | apply n_guard | apply n_cond | apply d_guard | apply d_op | apply n_fin | apply n_finb); (simp (maxDischargeDepth := 6) only [sy3.1, zY, qG, qP, qQ, qR, qS, qT, rowAt, ↓jg, ↓ji, Nat.reduceAdd, Nat.reduceEqDiff, ne_eq, jG, Nat.reduceLT, if_true, ite_true, Int.reduceLE, Int.reduceLT, Int.reduceEq, Int.reduceNeg, Int.reduceAdd, Nat.reduceSub, if_false, ite_false, fs_16.1, g1, g5, e1, hj3, hjr, st_buildSliceV, build_V1, hlr2, kind_pure, kind_load, kind_fresh, kind_other, jg, ji, undef]; first | exact rfl | exact ⟨rfl, rfl, rfl, rfl⟩); try (with_reducible refine calmK_in ?_; decide +kernel)))
            refine ⟨q - 1, by omega, k + 1, _, _, _, .slice (some ⟨nx' + 7, 0, none⟩) (M.length + 1) 0, by omega, rfl, by omega, ?_, ?_, ?_, ?_, ?_⟩
            · simp only [all_relogL, js, ju, List.all_nil, jt, Bool.and_self, Bool.true_and, Bool.and_true, hlg, hbj]
            · intro x hx; (repeat (first | rw [qE] | rw [qF _ _ _ _ (by omega)])); exact hold x hx
            · rw [hnext]
              exact .inr ⟨nx' + 7, by rw [List.length_append]; rfl, by omega, by omega, by (repeat (first | rw [qE] | rw [qF _ _ _ _ (by omega)]))⟩
            · simp only [qC, qD, qE, qF, Tr.get_nil, ne_eq, not_false_eq_true, Nat.reduceEqDiff, g1]
            · simp only [qC, qD, qE, qF, Tr.get_nil, ne_eq, not_false_eq_true, Nat.reduceEqDiff]
        · rcases hacc with ⟨rfl, hnil⟩ | ⟨j, rfl, hj2, hj3, hjr⟩
          · have hz : L.length + k = 0 := by rw [← hll, hnil]; rfl
            have e1 : decide (Int.ofNat 0 < want) = false := decide_eq_false (by simp only [Int.ofNat_eq_natCast]; omega)
            repeat (first | with_reducible (first | refine n_on ?_ | refine n_seq ?_ | refine s_else ?_ | refine n_t ?_ | refine n_gt ?_ | refine d_t ?_ | refine n_nil ?_ | refine d_nil ?_ | refine n_block ?_ | refine n_skip ?_ | refine n_bon ?_ | refine n_bback ?_ | refine n_back ?_ | refine n_out ?_ | refine n_bout rfl ?_ | refine n_bfar rfl ?_ | refine n_ret ?_ | refine n_exit ?_ | refine n_label ?_ | refine n_scope ?_ | refine n_son ?_ | refine n_sback ?_) | (with_reducible (first | apply n_region | apply d_region); (simp only [JV, JU, JW, Nat.reduceAdd, Nat.zero_add]; exact rfl)) | (with_reducible (first | apply s_op | apply n_guard | apply n_cond | apply d_guard | apply d_op | apply n_fin | apply n_finb); (simp (maxDischargeDepth := 6) only [sy3.1, zY, qG, qP, qQ, qR, qS, qT, rowAt, ↓jg, ↓ji, Nat.reduceAdd, Nat.reduceEqDiff, ne_eq, jG, Nat.reduceLT, if_true, ite_true, Int.reduceLE, Int.reduceLT, Int.reduceEq, Int.reduceNeg, Int.reduceAdd, Nat.reduceSub, if_false, ite_false, fs_16.1, g1, g5, e1, kind_pure, kind_load, kind_fresh, kind_other, jg, ji, undef]; first | exact rfl | exact ⟨rfl, rfl, rfl, rfl⟩); try (with_reducible refine calmK_in ?_; decide +kernel)))
            exact fin _ _ (by omega) (by omega) (by simp only [qC, qD, qE, qF, Tr.get_nil, ne_eq, not_false_eq_true, Nat.reduceEqDiff, g5])
          · have e1 : decide (Int.ofNat (L ++ List.replicate k (0, 0)).length < want) = false := decide_eq_false (by rw [hll]; simp only [Int.ofNat_eq_natCast]; omega)
            repeat (first | with_reducible (first | refine n_on ?_ | refine n_seq ?_ | refine s_else ?_ | refine n_t ?_ | refine n_gt ?_ | refine d_t ?_ | refine n_nil ?_ | refine d_nil ?_ | refine n_block ?_ | refine n_skip ?_ | refine n_bon ?_ | refine n_bback ?_ | refine n_back ?_ | refine n_out ?_ | refine n_bout rfl ?_ | refine n_bfar rfl ?_ | refine n_ret ?_ | refine n_exit ?_ | refine n_label ?_ | refine n_scope ?_ | refine n_son ?_ | refine n_sback ?_) | (with_reducible (first | apply n_region | apply d_region); (simp only [JV, JU, JW, Nat.reduceAdd, Nat.zero_add]; exact rfl)) | (with_reducible (first | apply s_op | apply n_guard | apply n_cond | apply d_guard | apply d_op | apply n_fin | apply n_finb); (simp (maxDischargeDepth := 6) only [sy3.1, zY, qG, qP, qQ, qR, qS, qT, rowAt, ↓jg, ↓ji, Nat.reduceAdd, Nat.reduceEqDiff, ne_eq, jG, Nat.reduceLT, if_true, ite_true, Int.reduceLE, Int.reduceLT, Int.reduceEq, Int.reduceNeg, Int.reduceAdd, Nat.reduceSub, if_false, ite_false, fs_16.1, g1, g5, e1, kind_pure, kind_load, kind_fresh, kind_other, jg, ji, undef]; first | exact rfl | exact ⟨rfl, rfl, rfl, rfl⟩); try (with_reducible refine calmK_in ?_; decide +kernel)))
            exact fin _ _ (by omega) (by omega) (by simp only [qC, qD, qE, qF, Tr.get_nil, ne_eq, not_false_eq_true, Nat.reduceEqDiff, g5])
      · exact ⟨0, o', _, lg', v, by omega, rfl, by omega, hlg, hold, by rw [List.replicate_zero, List.append_nil]; exact hacc.keep (Nat.le_refl _) (by omega) fun _ _ _ => rfl, g1, g5⟩
    · rintro e H ⟨o', nx', lg', v, rfl, hn, hlg, hold, hacc, g5⟩
      generalize L ++ List.replicate (want.toNat - L.length) (0, 0) = M at hacc ⊢
      repeat (first | with_reducible (first | refine n_on ?_ | refine n_seq ?_ | refine s_else ?_ | refine n_t ?_ | refine n_gt ?_ | refine d_t ?_ | refine n_nil ?_ | refine d_nil ?_ | refine n_block ?_ | refine n_skip ?_ | refine n_bon ?_ | refine n_bback ?_ | refine n_back ?_ | refine n_out ?_ | refine n_bout rfl ?_ | refine n_bfar rfl ?_ | refine n_ret ?_ | refine n_exit ?_ | refine n_label ?_ | refine n_scope ?_ | refine n_son ?_ | refine n_sback ?_) | (with_reducible (first | apply n_region | apply d_region); (simp only [JV, JU, JW, Nat.reduceAdd, Nat.zero_add]; exact rfl)) | (with_reducible (first | apply s_op | apply n_guard | apply n_cond | apply d_guard | apply d_op | apply n_fin | apply n_finb); (simp (maxDischargeDepth := 6) only [sy3.1, zY, qG, qP, qQ, qR, qS, qT, rowAt, ↓jg, ↓ji, Nat.reduceAdd, Nat.reduceEqDiff, ne_eq, jG, Nat.reduceLT, if_true, ite_true, Int.reduceLE, Int.reduceLT, Int.reduceEq, Int.reduceNeg, Int.reduceAdd, Nat.reduceSub, if_false, ite_false, fs_16.1, g5, kind_pure, kind_load, kind_fresh, kind_other, jg, ji, undef]; first | exact rfl | exact ⟨rfl, rfl, rfl, rfl⟩); try (with_reducible refine calmK_in ?_; decide +kernel)))
      rcases hacc with ⟨rfl, rfl⟩ | ⟨j, rfl, hj2, hj3, hjr⟩
      · rw [Ja hlg (by rfl)]
        exact ⟨_, _, _, rfl, Nat.le_refl _, fun _ _ => rfl, .inl ⟨rfl, rfl⟩⟩
      · rw [leave_newR hlg (show lowV nx (.slice (some ⟨j, 0, none⟩) M.length 0) = false from blt_new hj2)]
        exact ⟨_, _, _, rfl, by omega, hold, .inr ⟨j, rfl, hj2, by omega, hjr⟩⟩
end
end Go.Proofs.Yteomehedmfemiaa
