/- Pool: has, Count, Size, on the abstract machine. -/
import Derived.Test.YticeabhilkceiaaPmIn
namespace Go.Proofs.Yticeabhilkceiaa
open Go.RowKit
set_option linter.unusedSimpArgs false
set_option linter.unusedVariables false
set_option maxRecDepth 100000

section
variable {O : Helps} {n : Nat} {o : Tr AObj} {nx : Nat} {lg : List Nat} {i : Nat} {a b : Option Nat} {st : PS}
set_option maxHeartbeats 4000000 in
theorem phas_ok (hO : Clear O) (h : PoolIn o nx i a b st) (hl : st.sizes.length ≤ 65536) (id : Int) :
    oCall Try.prog [] O (n + 1) 24 [.pointer (some ⟨i, 0, none⟩), .int .i64 id] ⟨o, nx, lg⟩ = some (.bool (hasP st id), ⟨o, nx, lg⟩) := by
  refine of_got ?_
  obtain ⟨z, cf, hr, hcf⟩ := h.row
  rw [y_fn (rs := [.tmp 4]) (hO _ (by decide)) Try.func24 rfl (by kernel_rfl) rfl rfl]
  by_cases h1 : 1 ≤ id
  · by_cases h2 : id ≤ Int.ofNat st.sizes.length
    · obtain ⟨k, hid⟩ : ∃ k : Nat, id = (k : Int) + 1 := ⟨(id - 1).toNat, by omega⟩
      have hk : k < st.sizes.length := by simp only [Int.ofNat_eq_natCast] at h2; omega
      obtain ⟨j, rest, rfl, hj, hrow, hc⟩ := h.sz.at hk
      have hw : IntKind.i64.wrap (id - 1) = Int.ofNat k := by
        rw [show id - 1 = (k : Int) from by omega]
        exact wrap_small _ (by omega) (by omega)
      have hb : Nat.blt k st.sizes.length = true := by rw [Nat.blt_eq]; exact hk
      have hP : hasP st id = decide (0 ≤ st.sizes.getD k 0) := by
        unfold hasP
        rw [decide_eq_true h1, decide_eq_true (p := id ≤ (st.sizes.length : Int)) h2, show (id - 1).toNat = k from by omega]; rfl
      repeat (first | with_reducible (first | refine n_on ?_ | refine n_seq ?_ | refine s_else ?_ | refine n_t ?_ | refine n_gt ?_ | refine d_t ?_ | refine n_nil ?_ | refine d_nil ?_ | refine n_block ?_ | refine n_skip ?_ | refine n_bon ?_ | refine n_bback ?_ | refine n_back ?_ | refine n_out ?_ | refine n_bout rfl ?_ | refine n_bfar rfl ?_ | refine n_ret ?_ | refine n_exit ?_ | refine n_label ?_ | refine n_scope ?_ | refine n_son ?_ | refine n_sback ?_) | (with_reducible (first | apply n_region | apply d_region); (simp only [JV, JU, JW, Nat.reduceAdd, Nat.zero_add]; exact rfl)) | (with_reducible (first | apply s_op | apply n_guard | apply n_cond | apply d_guard | apply d_op | apply n_fin | apply n_finb); (simp (maxDischargeDepth := 6) only [sy3.1, zY, qG, qP, qQ, qR, qS, qT, rowAt, ↓jg, ↓ji, Nat.reduceAdd, Nat.reduceEqDiff, ne_eq, jG, Nat.reduceLT, if_true, ite_true, Int.reduceLE, Int.reduceLT, Int.reduceEq, Int.reduceNeg, Int.reduceAdd, Nat.reduceSub, if_false, ite_false, fs_24.1, slA, hr, hrow, hc, hw, hb, indexAt, Option.isNone_none, Nat.mul_one, decide_eq_true h1, decide_eq_true h2, kind_pure, kind_load, kind_fresh, kind_other, jg, ji, undef]; first | exact rfl | exact ⟨rfl, rfl, rfl, rfl⟩); try (with_reducible refine calmK_in ?_; decide +kernel)))
      try rw [hP]
      try exact Ja (by rfl) (by rfl)
    · have hP : hasP st id = false := by
        unfold hasP
        rw [decide_eq_false (p := id ≤ (st.sizes.length : Int)) h2, Bool.and_false]; rfl
      repeat (first | with_reducible (first | refine n_on ?_ | refine n_seq ?_ | refine s_else ?_ | refine n_t ?_ | refine n_gt ?_ | refine d_t ?_ | refine n_nil ?_ | refine d_nil ?_ | refine n_block ?_ | refine n_skip ?_ | refine n_bon ?_ | refine n_bback ?_ | refine n_back ?_ | refine n_out ?_ | refine n_bout rfl ?_ | refine n_bfar rfl ?_ | refine n_ret ?_ | refine n_exit ?_ | refine n_label ?_ | refine n_scope ?_ | refine n_son ?_ | refine n_sback ?_) | (with_reducible (first | apply n_region | apply d_region); (simp only [JV, JU, JW, Nat.reduceAdd, Nat.zero_add]; exact rfl)) | (with_reducible (first | apply s_op | apply n_guard | apply n_cond | apply d_guard | apply d_op | apply n_fin | apply n_finb); (simp (maxDischargeDepth := 6) only [sy3.1, zY, qG, qP, qQ, qR, qS, qT, rowAt, ↓jg, ↓ji, Nat.reduceAdd, Nat.reduceEqDiff, ne_eq, jG, Nat.reduceLT, if_true, ite_true, Int.reduceLE, Int.reduceLT, Int.reduceEq, Int.reduceNeg, Int.reduceAdd, Nat.reduceSub, if_false, ite_false, fs_24.1, slA, hr, decide_eq_true h1, decide_eq_false h2, kind_pure, kind_load, kind_fresh, kind_other, jg, ji, undef]; first | exact rfl | exact ⟨rfl, rfl, rfl, rfl⟩); try (with_reducible refine calmK_in ?_; decide +kernel)))
      try rw [hP]
      try exact Ja (by rfl) (by rfl)
  · have hP : hasP st id = false := by
      unfold hasP
      rw [decide_eq_false h1]; rfl
    repeat (first | with_reducible (first | refine n_on ?_ | refine n_seq ?_ | refine s_else ?_ | refine n_t ?_ | refine n_gt ?_ | refine d_t ?_ | refine n_nil ?_ | refine d_nil ?_ | refine n_block ?_ | refine n_skip ?_ | refine n_bon ?_ | refine n_bback ?_ | refine n_back ?_ | refine n_out ?_ | refine n_bout rfl ?_ | refine n_bfar rfl ?_ | refine n_ret ?_ | refine n_exit ?_ | refine n_label ?_ | refine n_scope ?_ | refine n_son ?_ | refine n_sback ?_) | (with_reducible (first | apply n_region | apply d_region); (simp only [JV, JU, JW, Nat.reduceAdd, Nat.zero_add]; exact rfl)) | (with_reducible (first | apply s_op | apply n_guard | apply n_cond | apply d_guard | apply d_op | apply n_fin | apply n_finb); (simp (maxDischargeDepth := 6) only [sy3.1, zY, qG, qP, qQ, qR, qS, qT, rowAt, ↓jg, ↓ji, Nat.reduceAdd, Nat.reduceEqDiff, ne_eq, jG, Nat.reduceLT, if_true, ite_true, Int.reduceLE, Int.reduceLT, Int.reduceEq, Int.reduceNeg, Int.reduceAdd, Nat.reduceSub, if_false, ite_false, fs_24.1, slA, hr, decide_eq_false h1, kind_pure, kind_load, kind_fresh, kind_other, jg, ji, undef]; first | exact rfl | exact ⟨rfl, rfl, rfl, rfl⟩); try (with_reducible refine calmK_in ?_; decide +kernel)))
    try rw [hP]
    try exact Ja (by rfl) (by rfl)
set_option maxHeartbeats 4000000 in
theorem pcount_ok (hO : Clear O) (h : PoolIn o nx i a b st) : oCall Try.prog [] O (n + 2) 18 [.pointer (some ⟨i, 0, none⟩)] ⟨o, nx, lg⟩ = some (.int .i64 st.count, ⟨o, nx, lg⟩) := by
  refine of_got ?_
  obtain ⟨z, cf, hr, hcf⟩ := h.row
  rw [y_fn (rs := [.tmp 2]) (hO _ (by decide)) Try.func18 rfl (by kernel_rfl) rfl rfl]
  repeat (first | with_reducible (first | refine n_on ?_ | refine n_seq ?_ | refine s_else ?_ | refine n_t ?_ | refine n_gt ?_ | refine d_t ?_ | refine n_nil ?_ | refine d_nil ?_ | refine n_block ?_ | refine n_skip ?_ | refine n_bon ?_ | refine n_bback ?_ | refine n_back ?_ | refine n_out ?_ | refine n_bout rfl ?_ | refine n_bfar rfl ?_ | refine n_ret ?_ | refine n_exit ?_ | refine n_label ?_ | refine n_scope ?_ | refine n_son ?_ | refine n_sback ?_) | (with_reducible (first | apply n_region | apply d_region); (simp only [JV, JU, JW, Nat.reduceAdd, Nat.zero_add]; exact rfl)) | (with_reducible (first | apply s_op | apply n_guard | apply n_cond | apply d_guard | apply d_op | apply n_fin | apply n_finb); (simp (maxDischargeDepth := 6) only [sy3.1, zY, qG, qP, qQ, qR, qS, qT, rowAt, ↓jg, ↓ji, Nat.reduceAdd, Nat.reduceEqDiff, ne_eq, jG, Nat.reduceLT, if_true, ite_true, Int.reduceLE, Int.reduceLT, Int.reduceEq, Int.reduceNeg, Int.reduceAdd, Nat.reduceSub, if_false, ite_false, fs_18.1, hr, pnone_ok hO hr, kind_pure, kind_load, kind_fresh, kind_other, jg, ji, undef]; first | exact rfl | exact ⟨rfl, rfl, rfl, rfl⟩); try (with_reducible refine calmK_in ?_; decide +kernel)))
  try exact Ja (by rfl) (by rfl)
set_option maxHeartbeats 4000000 in
theorem psize_ok (hO : Clear O) (h : PoolIn o nx i a b st) (hl : st.sizes.length ≤ 65536) (id : Int) :
    oCall Try.prog [] O (n + 2) 14 [.pointer (some ⟨i, 0, none⟩), .int .i64 id] ⟨o, nx, lg⟩ = some (.tuple #[.int .i64 (sizeP st id).1, .bool (sizeP st id).2], ⟨o, nx, lg⟩) := by
  refine of_got ?_
  obtain ⟨z, cf, hr, hcf⟩ := h.row
  rw [y_fn (rs := [.tmp 4, .tmp 5]) (hO _ (by decide)) Try.func14 rfl (by kernel_rfl) rfl rfl]
  unfold sizeP
  cases hP : hasP st id with
  | true =>
    obtain ⟨k, hid, hk, _, hw⟩ := hasP_in hl hP
    obtain ⟨j, rest, e, hj, hrow, hc⟩ := h.sz.at hk
    have hb : Nat.blt k st.sizes.length = true := by rw [Nat.blt_eq]; exact hk
    have hh2 := fun q => phas_ok (n := n) (nx := nx + q) (lg := []) hO (h.keep (Nat.le_add_right _ _) fun _ _ => rfl) hl id
    rw [hP] at hh2
    have ek : (id - 1).toNat = k := by omega
    subst e
    repeat (first | with_reducible (first | refine n_on ?_ | refine n_seq ?_ | refine s_else ?_ | refine n_t ?_ | refine n_gt ?_ | refine d_t ?_ | refine n_nil ?_ | refine d_nil ?_ | refine n_block ?_ | refine n_skip ?_ | refine n_bon ?_ | refine n_bback ?_ | refine n_back ?_ | refine n_out ?_ | refine n_bout rfl ?_ | refine n_bfar rfl ?_ | refine n_ret ?_ | refine n_exit ?_ | refine n_label ?_ | refine n_scope ?_ | refine n_son ?_ | refine n_sback ?_) | (with_reducible (first | apply n_region | apply d_region); (simp only [JV, JU, JW, Nat.reduceAdd, Nat.zero_add]; exact rfl)) | (with_reducible (first | apply s_op | apply n_guard | apply n_cond | apply d_guard | apply d_op | apply n_fin | apply n_finb); (simp (maxDischargeDepth := 6) only [sy3.1, zY, qG, qP, qQ, qR, qS, qT, rowAt, ↓jg, ↓ji, Nat.reduceAdd, Nat.reduceEqDiff, ne_eq, jG, Nat.reduceLT, if_true, ite_true, Int.reduceLE, Int.reduceLT, Int.reduceEq, Int.reduceNeg, Int.reduceAdd, Nat.reduceSub, if_false, ite_false, fs_14.1, slA, hr, hrow, hc, hw, hb, indexAt, Option.isNone_none, Nat.mul_one, pnone_ok hO hr, hh2, kind_pure, kind_load, kind_fresh, kind_other, jg, ji, undef]; first | exact rfl | exact ⟨rfl, rfl, rfl, rfl⟩); try (with_reducible refine calmK_in ?_; decide +kernel)))
    try rw [ek]
    try exact Ja (by rfl) (by rfl)
  | false =>
    have hh2 := fun q => phas_ok (n := n) (nx := nx + q) (lg := []) hO (h.keep (Nat.le_add_right _ _) fun _ _ => rfl) hl id
    rw [hP] at hh2
    repeat (first | with_reducible (first | refine n_on ?_ | refine n_seq ?_ | refine s_else ?_ | refine n_t ?_ | refine n_gt ?_ | refine d_t ?_ | refine n_nil ?_ | refine d_nil ?_ | refine n_block ?_ | refine n_skip ?_ | refine n_bon ?_ | refine n_bback ?_ | refine n_back ?_ | refine n_out ?_ | refine n_bout rfl ?_ | refine n_bfar rfl ?_ | refine n_ret ?_ | refine n_exit ?_ | refine n_label ?_ | refine n_scope ?_ | refine n_son ?_ | refine n_sback ?_) | (with_reducible (first | apply n_region | apply d_region); (simp only [JV, JU, JW, Nat.reduceAdd, Nat.zero_add]; exact rfl)) | (with_reducible (first | apply s_op | apply n_guard | apply n_cond | apply d_guard | apply d_op | apply n_fin | apply n_finb); (simp (maxDischargeDepth := 6) only [sy3.1, zY, qG, qP, qQ, qR, qS, qT, rowAt, ↓jg, ↓ji, Nat.reduceAdd, Nat.reduceEqDiff, ne_eq, jG, Nat.reduceLT, if_true, ite_true, Int.reduceLE, Int.reduceLT, Int.reduceEq, Int.reduceNeg, Int.reduceAdd, Nat.reduceSub, if_false, ite_false, fs_14.1, slA, hr, pnone_ok hO hr, hh2, kind_pure, kind_load, kind_fresh, kind_other, jg, ji, undef]; first | exact rfl | exact ⟨rfl, rfl, rfl, rfl⟩); try (with_reducible refine calmK_in ?_; decide +kernel)))
    try exact Ja (by rfl) (by rfl)
end
end Go.Proofs.Yticeabhilkceiaa
