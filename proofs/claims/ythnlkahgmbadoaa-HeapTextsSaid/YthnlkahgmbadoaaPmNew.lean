/- Pool: New, on the abstract machine. -/
import Derived.Test.YthnlkahgmbadoaaPmTake
namespace Go.Proofs.Ythnlkahgmbadoaa
open Go.RowKit
set_option linter.unusedSimpArgs false
set_option linter.unusedVariables false
set_option maxRecDepth 100000

section
variable {O : Helps} {n : Nat} {o : Tr AObj} {nx : Nat} {lg : List Nat} {i : Nat} {a b : Option Nat} {st : PS}
theorem wrap_any {x : Int} (h0 : -9223372036854775808 ≤ x) (h1 : x < 9223372036854775808) : IntKind.i64.wrap x = x := by
  rw [IntKind.wrap_i64]
  try unfold wrap64
  omega
theorem usedOf_le {st : PS} (hG : Good st) {k : Nat} (hk : k < st.sizes.length) (h0 : 0 ≤ st.sizes.getD k 0) : st.sizes.getD k 0 ≤ st.used := by
  rw [hG.used]; exact usedOf_at _ _ hk h0
set_option maxHeartbeats 4000000 in
theorem pnew_ok (hO : Clear O) (m : Int) (h0 : 0 ≤ m) (h1 : m ≤ 1073741824) :
    Got (oCall Try.prog [] O (n + 1) 21 [.int .i64 m] ⟨o, nx, lg⟩) fun r => ∃ o' nx' lg' i, r = (.tuple #[.pointer (some ⟨i, 0, none⟩), .int .i64 0], ⟨o', nx', lg'⟩) ∧ nx ≤ nx' ∧ nx ≤ i ∧ PoolIn o' nx' i none none ⟨m, 0, 0, [], []⟩ ∧ (∀ x, x < nx → o'.get x = o.get x) ∧ ∀ y, y ∈ lg → y ∈ lg' := by
  rw [y_fn (rs := [.tmp 2, .tmp 3]) (hO _ (by decide)) Try.func21 rfl (by kernel_rfl) rfl rfl]
  have d0 : decide (m < 0) = false := decide_eq_false (by omega)
  have d1 : decide (1073741824 < m) = false := decide_eq_false (by omega)
  repeat (first | with_reducible (first | refine n_on ?_ | refine n_seq ?_ | refine s_else ?_ | refine n_t ?_ | refine n_gt ?_ | refine d_t ?_ | refine n_nil ?_ | refine d_nil ?_ | refine n_block ?_ | refine n_skip ?_ | refine n_bon ?_ | refine n_bback ?_ | refine n_back ?_ | refine n_out ?_ | refine n_bout rfl ?_ | refine n_bfar rfl ?_ | refine n_ret ?_ | refine n_exit ?_ | refine n_label ?_ | refine n_scope ?_ | refine n_son ?_ | refine n_sback ?_) | (with_reducible (first | apply n_region | apply d_region); (simp only [JV, JU, JW, Nat.reduceAdd, Nat.zero_add]; exact rfl)) | (with_reducible (first | apply s_op | apply n_guard | apply n_cond | apply d_guard | apply d_op | apply n_fin | apply n_finb); (simp (maxDischargeDepth := 6) only [sy3.1, zY, qG, qP, qQ, qR, qS, qT, rowAt, ↓jg, ↓ji, Nat.reduceAdd, Nat.reduceEqDiff, ne_eq, jG, Nat.reduceLT, if_true, ite_true, Int.reduceLE, Int.reduceLT, Int.reduceEq, Int.reduceNeg, Int.reduceAdd, Nat.reduceSub, if_false, ite_false, fs_21.1, d0, d1, kind_pure, kind_load, kind_fresh, kind_other, jg, ji, undef]; first | exact rfl | exact ⟨rfl, rfl, rfl, rfl⟩); try (with_reducible refine calmK_in ?_; decide +kernel)))
  obtain ⟨l', e, h2, _⟩ := leave_log0 (o := o) (o' := o.put (nx + 10) (some (.row [.bool true, .int .i64 m, .int .i64 0, .int .i64 0, .slice none 0 0, .slice none 0 0] 88 0 true))) (nx := nx) (nx' := nx + 13) (lg := lg) (l := []) (v := .tuple #[.pointer (some ⟨nx + 10, 0, none⟩), .int .i64 0]) (by
    show (Nat.blt (nx + 10) nx && _) = false
    rw [blt_new (by omega)]; rfl)
  exact ⟨_, _, _, _, e, by omega, by omega, ⟨by omega, ⟨0, 0, qE _ _ _, .inl rfl, .inl rfl⟩, .inl ⟨rfl, rfl⟩, .inl ⟨rfl, rfl⟩, (by intro e; cases e), (by intro e; cases e), (by intro j e; cases e)⟩, fun x hx => qF _ _ _ _ (by omega), h2⟩
theorem pnew_bad (hO : Clear O) (m : Int) (h : m < 0 ∨ 1073741824 < m) : oCall Try.prog [] O (n + 1) 21 [.int .i64 m] ⟨o, nx, lg⟩ = some (.tuple #[.pointer none, .int .i64 2], ⟨o, nx, lg⟩) := by
  refine of_got ?_
  rw [y_fn (rs := [.tmp 2, .tmp 3]) (hO _ (by decide)) Try.func21 rfl (by kernel_rfl) rfl rfl]
  by_cases h0 : m < 0
  · repeat (first | with_reducible (first | refine n_on ?_ | refine n_seq ?_ | refine s_else ?_ | refine n_t ?_ | refine n_gt ?_ | refine d_t ?_ | refine n_nil ?_ | refine d_nil ?_ | refine n_block ?_ | refine n_skip ?_ | refine n_bon ?_ | refine n_bback ?_ | refine n_back ?_ | refine n_out ?_ | refine n_bout rfl ?_ | refine n_bfar rfl ?_ | refine n_ret ?_ | refine n_exit ?_ | refine n_label ?_ | refine n_scope ?_ | refine n_son ?_ | refine n_sback ?_) | (with_reducible (first | apply n_region | apply d_region); (simp only [JV, JU, JW, Nat.reduceAdd, Nat.zero_add]; exact rfl)) | (with_reducible (first | apply s_op | apply n_guard | apply n_cond | apply d_guard | apply d_op | apply n_fin | apply n_finb); (simp (maxDischargeDepth := 6) only [sy3.1, zY, qG, qP, qQ, qR, qS, qT, rowAt, ↓jg, ↓ji, Nat.reduceAdd, Nat.reduceEqDiff, ne_eq, jG, Nat.reduceLT, if_true, ite_true, Int.reduceLE, Int.reduceLT, Int.reduceEq, Int.reduceNeg, Int.reduceAdd, Nat.reduceSub, if_false, ite_false, fs_21.1, decide_eq_true h0, kind_pure, kind_load, kind_fresh, kind_other, jg, ji, undef]; first | exact rfl | exact ⟨rfl, rfl, rfl, rfl⟩); try (with_reducible refine calmK_in ?_; decide +kernel)))
    try exact Ja (by rfl) (by rfl)
  · have h1 : 1073741824 < m := h.resolve_left h0
    repeat (first | with_reducible (first | refine n_on ?_ | refine n_seq ?_ | refine s_else ?_ | refine n_t ?_ | refine n_gt ?_ | refine d_t ?_ | refine n_nil ?_ | refine d_nil ?_ | refine n_block ?_ | refine n_skip ?_ | refine n_bon ?_ | refine n_bback ?_ | refine n_back ?_ | refine n_out ?_ | refine n_bout rfl ?_ | refine n_bfar rfl ?_ | refine n_ret ?_ | refine n_exit ?_ | refine n_label ?_ | refine n_scope ?_ | refine n_son ?_ | refine n_sback ?_) | (with_reducible (first | apply n_region | apply d_region); (simp only [JV, JU, JW, Nat.reduceAdd, Nat.zero_add]; exact rfl)) | (with_reducible (first | apply s_op | apply n_guard | apply n_cond | apply d_guard | apply d_op | apply n_fin | apply n_finb); (simp (maxDischargeDepth := 6) only [sy3.1, zY, qG, qP, qQ, qR, qS, qT, rowAt, ↓jg, ↓ji, Nat.reduceAdd, Nat.reduceEqDiff, ne_eq, jG, Nat.reduceLT, if_true, ite_true, Int.reduceLE, Int.reduceLT, Int.reduceEq, Int.reduceNeg, Int.reduceAdd, Nat.reduceSub, if_false, ite_false, fs_21.1, decide_eq_false h0, decide_eq_true h1, kind_pure, kind_load, kind_fresh, kind_other, jg, ji, undef]; first | exact rfl | exact ⟨rfl, rfl, rfl, rfl⟩); try (with_reducible refine calmK_in ?_; decide +kernel)))
    try exact Ja (by rfl) (by rfl)
end
end Go.Proofs.Ythnlkahgmbadoaa
