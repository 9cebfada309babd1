/- The document's pool, on the abstract machine: Take from an empty one. -/
import Derived.Test.YticeabhilkceiaaPlC
namespace Go.Proofs.Yticeabhilkceiaa
open Go.RowKit
set_option linter.unusedSimpArgs false
set_option linter.unusedVariables false
set_option maxRecDepth 100000

theorem y_round {P : Program} {call : CallFn} {fuel : Nat} {c : Code} {env : Tr Value} {H : AHeap} {Q : Way × Tr Value × AHeap → Prop} {f : Nat} (h : Got (rCode P call fuel c env H) (onTo Q fun e h => Got (loopN (rCode P call fuel c) Way.isOn f e h) Q)) : Got (loopN (rCode P call fuel c) Way.isOn (f + 1) env H) Q := by
  obtain ⟨⟨w, e, h1⟩, hr, hq⟩ := h
  simp only [loopN, hr]
  cases w with
  | on => simp only [Way.isOn, cond]; exact hq
  | out i => simp only [Way.isOn, cond, qL]; exact hq
  | back => simp only [Way.isOn, cond, qL]; exact hq
theorem sn1 : ∀ H, aSlice Try.prog 27 (.slice none 0 0) none (some (.int .i64 0)) none H = some (.slice none 0 0) := fun H => by kernel_rfl
theorem sn2 : ∀ H, aSlice Try.prog 27 (.slice none 0 0) (some (.int .i64 0)) none none H = some (.slice none 0 0) := fun H => by kernel_rfl
theorem an1 : ∀ fid H, aAppend Try.prog 27 27 (.slice none 0 0) (.slice none 0 0) fid H = some (.slice none 0 0, H) := fun fid H => by kernel_rfl
theorem an2 (j n : Nat) : ∀ (o : Tr AObj) (nx : Nat) (lg : List Nat) (fid : Nat), aAppend Try.prog 27 27 (.slice (some ⟨j, 0, none⟩) n 0) (.slice none 0 0) fid ⟨o, nx, lg⟩ = some (.slice (some ⟨j, 0, none⟩) n 0, ⟨o, nx, lg⟩) := fun o nx lg fid => app_same (add_nil _)
section
variable {O : Helps} {n : Nat} {o : Tr AObj} {nx : Nat} {lg : List Nat} {a b : Option Nat} {bd : Int} {ids sizes : List Int}
set_option maxHeartbeats 16000000 in
theorem rtake_nil (hO : Clear O) (hbd : bd ≤ 1073741824) (hb0 : 0 ≤ bd) (size : Int) :
    Got (oCall Try.prog [] O (n + 3) 8 [rpV bd none none [] [], .int .i64 size] ⟨o, nx, lg⟩) (RpTo o nx lg none none bd (takeL bd [] [] size).1.1 (takeL bd [] [] size).1.2 (mk3 (takeL bd [] [] size).2.1 (takeL bd [] [] size).2.2)) := by
  have hA : RIn o nx none [] := .inl ⟨rfl, rfl⟩
  have hus := fun (X Y : AObj) (q : Nat) (lg : List Nat) => rused_ok (n := n + 1) (a := none) (b := none) (bd := bd) (ids := []) (sizes := []) (o := (o.put nx (some X)).put (nx + 1) (some Y)) (nx := nx + (q + 2)) (lg := lg) hO (.inl ⟨rfl, rfl⟩) (by simp) (by decide) (by decide) (by show 0 < n + 1; omega)
  unfold takeL
  rw [y_fn (rs := [.cell 4 29, .tmp 5, .tmp 6]) (hO _ (by decide)) Try.func8 rfl (by kernel_rfl) rfl rfl]
  by_cases h1 : size < 0
  · rw [if_pos h1]
    repeat (first | with_reducible (first | refine n_on ?_ | refine n_seq ?_ | refine s_else ?_ | refine n_t ?_ | refine n_gt ?_ | refine d_t ?_ | refine n_nil ?_ | refine d_nil ?_ | refine n_block ?_ | refine n_skip ?_ | refine n_bon ?_ | refine n_bback ?_ | refine n_back ?_ | refine n_out ?_ | refine n_bout rfl ?_ | refine n_bfar rfl ?_ | refine n_ret ?_ | refine n_exit ?_ | refine n_label ?_ | refine n_scope ?_ | refine n_son ?_ | refine n_sback ?_) | (with_reducible (first | apply n_region | apply d_region); (simp only [JV, JU, JW, Nat.reduceAdd, Nat.zero_add]; exact rfl)) | (with_reducible (first | apply s_op | apply n_guard | apply n_cond | apply d_guard | apply d_op | apply n_fin | apply n_finb); (simp (maxDischargeDepth := 6) only [sy3.1, zY, qG, qP, qQ, qR, qS, qT, rowAt, ↓jg, ↓ji, Nat.reduceAdd, Nat.reduceEqDiff, ne_eq, jG, Nat.reduceLT, if_true, ite_true, Int.reduceLE, Int.reduceLT, Int.reduceEq, Int.reduceNeg, Int.reduceAdd, Nat.reduceSub, if_false, ite_false, fs_8.1, rpV, decide_eq_true h1, kind_pure, kind_load, kind_fresh, kind_other, jg, ji, undef]; first | exact rfl | exact ⟨rfl, rfl, rfl, rfl⟩); try (with_reducible refine calmK_in ?_; decide +kernel)))
    exact rp_same3 (a := none) (b := none) hA hA _ _ (by simp only [all_relogL, js, ju, List.all_nil, jt, Bool.and_self])
  rw [if_neg h1]
  have d1 := decide_eq_false h1
  by_cases h2 : bd < size
  · rw [if_pos (.inl h2)]
    repeat (first | with_reducible (first | refine n_on ?_ | refine n_seq ?_ | refine s_else ?_ | refine n_t ?_ | refine n_gt ?_ | refine d_t ?_ | refine n_nil ?_ | refine d_nil ?_ | refine n_block ?_ | refine n_skip ?_ | refine n_bon ?_ | refine n_bback ?_ | refine n_back ?_ | refine n_out ?_ | refine n_bout rfl ?_ | refine n_bfar rfl ?_ | refine n_ret ?_ | refine n_exit ?_ | refine n_label ?_ | refine n_scope ?_ | refine n_son ?_ | refine n_sback ?_) | (with_reducible (first | apply n_region | apply d_region); (simp only [JV, JU, JW, Nat.reduceAdd, Nat.zero_add]; exact rfl)) | (with_reducible (first | apply s_op | apply n_guard | apply n_cond | apply d_guard | apply d_op | apply n_fin | apply n_finb); (simp (maxDischargeDepth := 6) only [sy3.1, zY, qG, qP, qQ, qR, qS, qT, rowAt, ↓jg, ↓ji, Nat.reduceAdd, Nat.reduceEqDiff, ne_eq, jG, Nat.reduceLT, if_true, ite_true, Int.reduceLE, Int.reduceLT, Int.reduceEq, Int.reduceNeg, Int.reduceAdd, Nat.reduceSub, if_false, ite_false, fs_8.1, rpV, d1, decide_eq_true h2, kind_pure, kind_load, kind_fresh, kind_other, jg, ji, undef]; first | exact rfl | exact ⟨rfl, rfl, rfl, rfl⟩); try (with_reducible refine calmK_in ?_; decide +kernel)))
    exact rp_same3 (a := none) (b := none) hA hA _ _ (by simp only [all_relogL, js, ju, List.all_nil, jt, Bool.and_self])
  have hno : ¬ (bd < size ∨ bd < sumL [] + size ∨ 65536 ≤ ([] : List Int).length) := by simp only [sumL, List.length_nil]; omega
  rw [if_neg hno]
  have d2 := decide_eq_false h2
  have w1 : IntKind.i64.wrap (0 + size) = size := by rw [Int.zero_add]; exact wrap_any (by omega) (by omega)
  have d4 : decide ((65536 : Int) ≤ Int.ofNat 0) = false := by decide
  have d5 : decide (0 < 0) = false := rfl
  have d6 : decide ((0 : Int) < Int.ofNat 0) = false := rfl
  have w2 : IntKind.i64.wrap 1 = 1 := by decide
  have w3 : IntKind.i64.wrap (0 + 1) = 1 := by decide
  simp only [sumL, rpV, slA, Option.map_none, List.length_nil] at hus
  repeat (first | with_reducible (first | refine n_on ?_ | refine n_seq ?_ | refine s_else ?_ | refine n_t ?_ | refine n_gt ?_ | refine d_t ?_ | refine n_nil ?_ | refine d_nil ?_ | refine n_block ?_ | refine n_skip ?_ | refine n_bon ?_ | refine n_bback ?_ | refine n_back ?_ | refine n_out ?_ | refine n_bout rfl ?_ | refine n_bfar rfl ?_ | refine n_ret ?_ | refine n_exit ?_ | refine n_label ?_ | refine n_scope ?_ | refine n_son ?_ | refine n_sback ?_) | (with_reducible (first | apply n_region | apply d_region); (simp only [JV, JU, JW, Nat.reduceAdd, Nat.zero_add]; exact rfl)) | (with_reducible (first | apply s_op | apply n_guard | apply n_cond | apply d_guard | apply d_op | apply n_fin | apply n_finb); (simp (maxDischargeDepth := 6) only [sy3.1, zY, qG, qP, qQ, qR, qS, qT, rowAt, ↓jg, ↓ji, Nat.reduceAdd, Nat.reduceEqDiff, ne_eq, jG, Nat.reduceLT, if_true, ite_true, Int.reduceLE, Int.reduceLT, Int.reduceEq, Int.reduceNeg, Int.reduceAdd, Nat.reduceSub, if_false, ite_false, fs_8.1, rpV, slA, hus, sumL, d1, d2, w1, d4, kind_pure, kind_load, kind_fresh, kind_other, jg, ji, undef]; first | exact rfl | exact ⟨rfl, rfl, rfl, rfl⟩); try (with_reducible refine calmK_in ?_; decide +kernel)))
  rw [y_loop_eq]
  refine y_round ?_
  repeat (first | with_reducible (first | refine n_on ?_ | refine n_seq ?_ | refine s_else ?_ | refine n_t ?_ | refine n_gt ?_ | refine d_t ?_ | refine n_nil ?_ | refine d_nil ?_ | refine n_block ?_ | refine n_skip ?_ | refine n_bon ?_ | refine n_bback ?_ | refine n_back ?_ | refine n_out ?_ | refine n_bout rfl ?_ | refine n_bfar rfl ?_ | refine n_ret ?_ | refine n_exit ?_ | refine n_label ?_ | refine n_scope ?_ | refine n_son ?_ | refine n_sback ?_) | (with_reducible (first | apply n_region | apply d_region); (simp only [JV, JU, JW, Nat.reduceAdd, Nat.zero_add]; exact rfl)) | (with_reducible (first | apply s_op | apply n_guard | apply n_cond | apply d_guard | apply d_op | apply n_fin | apply n_finb); (simp (maxDischargeDepth := 6) only [sy3.1, zY, qG, qP, qQ, qR, qS, qT, rowAt, ↓jg, ↓ji, Nat.reduceAdd, Nat.reduceEqDiff, ne_eq, jG, Nat.reduceLT, if_true, ite_true, Int.reduceLE, Int.reduceLT, Int.reduceEq, Int.reduceNeg, Int.reduceAdd, Nat.reduceSub, if_false, ite_false, fs_8.1, rpV, slA, d5, d6, w2, w3, sn1, sn2, an1, an2, st_buildSliceV, build_int, iapp_none 1, iapp_none size, kind_pure, kind_load, kind_fresh, kind_other, jg, ji, undef]; first | exact rfl | exact ⟨rfl, rfl, rfl, rfl⟩); try (with_reducible refine calmK_in ?_; decide +kernel)))
  show RpTo o nx lg none none bd [1] [size] (mk3 1 0) _
  exact rp_new (a := some (nx + 69)) (b := some (nx + 76)) (ids := [1]) (sizes := [size]) (mk := mk3 1 0) (low_mk3 1 0) (by simp only [all_relogL, js, ju, List.all_nil, jt, Bool.and_self]) (by omega) (.inr ⟨_, rfl, by omega, by simp, by (repeat (first | rw [qE] | rw [qF _ _ _ _ (by omega)])); rfl⟩) (.inr ⟨_, rfl, by omega, by simp, by (repeat (first | rw [qE] | rw [qF _ _ _ _ (by omega)])); rfl⟩) (fun j e => by cases e; omega) (fun j e => by cases e; omega) (fun x hx => by (repeat (first | rw [qE] | rw [qF _ _ _ _ (by omega)])))
end
end Go.Proofs.Yticeabhilkceiaa
