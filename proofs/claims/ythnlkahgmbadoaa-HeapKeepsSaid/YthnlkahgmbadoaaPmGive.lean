/- Pool: has, on the abstract machine. -/
import Derived.Test.YthnlkahgmbadoaaPmNew
namespace Go.Proofs.Ythnlkahgmbadoaa
open Go.RowKit
set_option linter.unusedSimpArgs false
set_option linter.unusedVariables false
set_option maxRecDepth 100000

section
variable {O : Helps} {n : Nat} {o : Tr AObj} {nx : Nat} {lg : List Nat} {i : Nat} {a b : Option Nat} {st : PS}
set_option maxHeartbeats 4000000 in
theorem phas_ok (hO : Clear O) (h : PoolIn o nx i a b st) (hl : st.sizes.length ≤ 65536) (id : Int) :
    oCall Try.prog [] O (n + 1) 49 [.pointer (some ⟨i, 0, none⟩), .int .i64 id] ⟨o, nx, lg⟩ = some (.bool (hasP st id), ⟨o, nx, lg⟩) := by
  refine of_got ?_
  obtain ⟨z, cf, hr, hcf⟩ := h.row
  rw [y_fn (rs := [.tmp 4]) (hO _ (by decide)) Try.func49 rfl (by kernel_rfl) rfl rfl]
  by_cases h1 : 1 ≤ id
  · by_cases h2 : id ≤ Int.ofNat st.sizes.length
    · obtain ⟨k, hid⟩ : ∃ k : Nat, id = (k : Int) + 1 := ⟨(id - 1).toNat, by omega⟩
      have hk : k < st.sizes.length := by simp only [Int.ofNat_eq_natCast] at h2; omega
      obtain ⟨j, rest, rfl, hj, hrow, hc⟩ := h.sz.at hk
      have hw : IntKind.i64.wrap (id - 1) = Int.ofNat k := by
        rw [show id - 1 = (k : Int) from by omega]
        exact wrap_small _ (by omega) (by omega)
      have hb : Nat.blt k st.sizes.length = true := by rw [Nat.blt_eq]; exact hk
      have hP : hasP st id = decide (0 ≤ st.sizes.getD k 0) := by
        unfold hasP
        rw [decide_eq_true h1, decide_eq_true (p := id ≤ (st.sizes.length : Int)) h2, show (id - 1).toNat = k from by omega]; rfl
      repeat (first | with_reducible (first | refine n_on ?_ | refine n_seq ?_ | refine s_else ?_ | refine n_t ?_ | refine n_gt ?_ | refine d_t ?_ | refine n_nil ?_ | refine d_nil ?_ | refine n_block ?_ | refine n_skip ?_ | refine n_bon ?_ | refine n_bback ?_ | refine n_back ?_ | refine n_out ?_ | refine n_bout rfl ?_ | refine n_bfar rfl ?_ | refine n_ret ?_ | refine n_exit ?_ | refine n_label ?_ | refine n_scope ?_ | refine n_son ?_ | refine n_sback ?_) | (with_reducible (first | apply n_region | apply d_region); (simp only [JV, JU, JW, Nat.reduceAdd, Nat.zero_add]; exact rfl)) | (with_reducible (first | apply s_op | apply n_guard | apply n_cond | apply d_guard | apply d_op | apply n_fin | apply n_finb); (simp (maxDischargeDepth := 6) only [sy3.1, zY, qG, qP, qQ, qR, qS, qT, rowAt, ↓jg, ↓ji, Nat.reduceAdd, Nat.reduceEqDiff, ne_eq, jG, Nat.reduceLT, if_true, ite_true, Int.reduceLE, Int.reduceLT, Int.reduceEq, Int.reduceNeg, Int.reduceAdd, Nat.reduceSub, if_false, ite_false, fs_49.1, slA, hr, hrow, hc, hw, hb, indexAt, Option.isNone_none, Nat.mul_one, decide_eq_true h1, decide_eq_true h2, kind_pure, kind_load, kind_fresh, kind_other, jg, ji, undef]; first | exact rfl | exact ⟨rfl, rfl, rfl, rfl⟩); try (with_reducible refine calmK_in ?_; decide +kernel)))
      try rw [hP]
      try exact Ja (by rfl) (by rfl)
    · have hP : hasP st id = false := by
        unfold hasP
        rw [decide_eq_false (p := id ≤ (st.sizes.length : Int)) h2, Bool.and_false]; rfl
      repeat (first | with_reducible (first | refine n_on ?_ | refine n_seq ?_ | refine s_else ?_ | refine n_t ?_ | refine n_gt ?_ | refine d_t ?_ | refine n_nil ?_ | refine d_nil ?_ | refine n_block ?_ | refine n_skip ?_ | refine n_bon ?_ | refine n_bback ?_ | refine n_back ?_ | refine n_out ?_ | refine n_bout rfl ?_ | refine n_bfar rfl ?_ | refine n_ret ?_ | refine n_exit ?_ | refine n_label ?_ | refine n_scope ?_ | refine n_son ?_ | refine n_sback ?_) | (with_reducible (first | apply n_region | apply d_region); (simp only [JV, JU, JW, Nat.reduceAdd, Nat.zero_add]; exact rfl)) | (with_reducible (first | apply s_op | apply n_guard | apply n_cond | apply d_guard | apply d_op | apply n_fin | apply n_finb); (simp (maxDischargeDepth := 6) only [sy3.1, zY, qG, qP, qQ, qR, qS, qT, rowAt, ↓jg, ↓ji, Nat.reduceAdd, Nat.reduceEqDiff, ne_eq, jG, Nat.reduceLT, if_true, ite_true, Int.reduceLE, Int.reduceLT, Int.reduceEq, Int.reduceNeg, Int.reduceAdd, Nat.reduceSub, if_false, ite_false, fs_49.1, slA, hr, decide_eq_true h1, decide_eq_false h2, kind_pure, kind_load, kind_fresh, kind_other, jg, ji, undef]; first | exact rfl | exact ⟨rfl, rfl, rfl, rfl⟩); try (with_reducible refine calmK_in ?_; decide +kernel)))
      try rw [hP]
      try exact Ja (by rfl) (by rfl)
  · have hP : hasP st id = false := by
      unfold hasP
      rw [decide_eq_false h1]; rfl
    repeat (first | with_reducible (first | refine n_on ?_ | refine n_seq ?_ | refine s_else ?_ | refine n_t ?_ | refine n_gt ?_ | refine d_t ?_ | refine n_nil ?_ | refine d_nil ?_ | refine n_block ?_ | refine n_skip ?_ | refine n_bon ?_ | refine n_bback ?_ | refine n_back ?_ | refine n_out ?_ | refine n_bout rfl ?_ | refine n_bfar rfl ?_ | refine n_ret ?_ | refine n_exit ?_ | refine n_label ?_ | refine n_scope ?_ | refine n_son ?_ | refine n_sback ?_) | (with_reducible (first | apply n_region | apply d_region); (simp only [JV, JU, JW, Nat.reduceAdd, Nat.zero_add]; exact rfl)) | (with_reducible (first | apply s_op | apply n_guard | apply n_cond | apply d_guard | apply d_op | apply n_fin | apply n_finb); (simp (maxDischargeDepth := 6) only [sy3.1, zY, qG, qP, qQ, qR, qS, qT, rowAt, ↓jg, ↓ji, Nat.reduceAdd, Nat.reduceEqDiff, ne_eq, jG, Nat.reduceLT, if_true, ite_true, Int.reduceLE, Int.reduceLT, Int.reduceEq, Int.reduceNeg, Int.reduceAdd, Nat.reduceSub, if_false, ite_false, fs_49.1, slA, hr, decide_eq_false h1, kind_pure, kind_load, kind_fresh, kind_other, jg, ji, undef]; first | exact rfl | exact ⟨rfl, rfl, rfl, rfl⟩); try (with_reducible refine calmK_in ?_; decide +kernel)))
    try rw [hP]
    try exact Ja (by rfl) (by rfl)
end
end Go.Proofs.Ythnlkahgmbadoaa

namespace Go.Proofs.Ythnlkahgmbadoaa
open Go.RowKit
set_option linter.unusedSimpArgs false
set_option linter.unusedVariables false
set_option maxRecDepth 100000

section
variable {O : Helps} {n : Nat} {o : Tr AObj} {nx : Nat} {lg : List Nat} {i : Nat} {a b : Option Nat} {st : PS}
set_option maxHeartbeats 8000000 in
theorem pup_ok (hO : Clear O) (h : PoolIn o nx i a b st) {m : Nat} (hm : st.free.length = m + 1) (hl : m < 1000000) (hn : m < n) :
    Got (oCall Try.prog [] O (n + 1) 50 [.pointer (some ⟨i, 0, none⟩)] ⟨o, nx, lg⟩) fun r => ∃ o' nx' lg', r = (.tuple #[], ⟨o', nx', lg'⟩) ∧ nx ≤ nx' ∧ PoolIn o' nx' i a b { st with free := siftUp st.free m m } ∧ (∀ x, x < nx → b ≠ some x → o'.get x = o.get x) ∧ ∀ y, y ∈ lg → y ∈ lg' := by
  obtain ⟨z, cf, hr, hcf⟩ := h.row
  obtain ⟨j, rest0, rfl, hj, hrow⟩ : ∃ j rest, b = some j ∧ j < nx ∧ o.get j = some (.row (st.free.map (Value.int .i64) ++ rest) 3 1 true) := by
    rcases h.fr with ⟨_, e⟩ | hf
    · rw [e] at hm; simp at hm
    · exact hf
  have hji : j ≠ i := fun e => h.neb (by rw [e])
  obtain rfl : cf = 0 := hcf.zero (fun e => by rw [e] at hm; simp at hm)
  rw [y_fn (rs := []) (hO _ (by decide)) Try.func50 rfl (by kernel_rfl) rfl rfl]
  have hw0 : IntKind.i64.wrap (Int.ofNat st.free.length - 1) = Int.ofNat m := by
    rw [wrap_pred1 _ (by omega) (by omega), hm]; rfl
  repeat (first | with_reducible (first | refine n_on ?_ | refine n_seq ?_ | refine s_else ?_ | refine n_t ?_ | refine n_gt ?_ | refine d_t ?_ | refine n_nil ?_ | refine d_nil ?_ | refine n_block ?_ | refine n_skip ?_ | refine n_bon ?_ | refine n_bback ?_ | refine n_back ?_ | refine n_out ?_ | refine n_bout rfl ?_ | refine n_bfar rfl ?_ | refine n_ret ?_ | refine n_exit ?_ | refine n_label ?_ | refine n_scope ?_ | refine n_son ?_ | refine n_sback ?_) | (with_reducible (first | apply n_region | apply d_region); (simp only [JV, JU, JW, Nat.reduceAdd, Nat.zero_add]; exact rfl)) | (with_reducible (first | apply s_op | apply n_guard | apply n_cond | apply d_guard | apply d_op | apply n_fin | apply n_finb); (simp (maxDischargeDepth := 6) only [sy3.1, zY, qG, qP, qQ, qR, qS, qT, rowAt, ↓jg, ↓ji, Nat.reduceAdd, Nat.reduceEqDiff, ne_eq, jG, Nat.reduceLT, if_true, ite_true, Int.reduceLE, Int.reduceLT, Int.reduceEq, Int.reduceNeg, Int.reduceAdd, Nat.reduceSub, if_false, ite_false, fs_50.1, slA, hr, hw0, kind_pure, kind_load, kind_fresh, kind_other, jg, ji, undef]; first | exact rfl | exact ⟨rfl, rfl, rfl, rfl⟩); try (with_reducible refine calmK_in ?_; decide +kernel)))
  rw [y_loop_eq]
  refine y_loop (I := fun q e H => ∃ f o' nx' lg' l' rest, H = (⟨o', nx', lg'⟩ : AHeap) ∧ e.get 0 = some (.pointer (some ⟨i, 0, none⟩)) ∧ e.get 2 = some (.int .i64 (.ofNat q)) ∧ q ≤ f ∧ q < l'.length ∧ l'.length = m + 1 ∧ siftUp l' f q = siftUp st.free m m ∧ nx ≤ nx' ∧
    o'.get i = some (.row [.bool true, .int .i64 st.bound, .int .i64 st.used, .int .i64 st.count, .slice (slA a) st.sizes.length 0, .slice (slA (some j)) (m + 1) 0] 88 z true) ∧
    o'.get j = some (.row (l'.map (Value.int .i64) ++ rest) 3 1 true) ∧ (∀ x, x < nx → x ≠ j → o'.get x = o.get x) ∧ (lg'.all (fun x => Nat.ble nx x) = true → l' = st.free)) ?_ m _ _ _ ?_ hn
  · rintro q e H ⟨f, o', nx', lg', l', rest, rfl, g0, g2, hqf, hql, hlm, hsift, hnx, hi', hj', hfr, hq⟩
    have hends : siftUp st.free m m = l' → ∃ o2 nx2 lg2, leave ⟨o, nx, lg⟩ (.tuple #[]) ⟨o', nx' + 21, lg'⟩ = (.tuple #[], ⟨o2, nx2, lg2⟩) ∧ nx ≤ nx2 ∧ PoolIn o2 nx2 i a (some j) { st with free := siftUp st.free m m } ∧ (∀ x, x < nx → some j ≠ some x → o2.get x = o.get x) ∧ ∀ y, y ∈ lg → y ∈ lg2 := by
      intro he
      rw [he]
      rcases leave_split (o := o) (o' := o') (nx := nx) (nx' := nx' + 21) (lg := lg) (l := lg') (v := .tuple #[]) rfl with ⟨l2, e2, hmo, _⟩ | ⟨hall, e2⟩
      · refine ⟨_, _, _, e2, by omega, ⟨by have := h.lt; omega, ⟨z, 0, by rw [hi', hlm], .inl rfl, hcf.2⟩, h.sz.keep (by omega) fun x e => hfr x (h.sz.lt e) (fun e2 => h.neab x e (by rw [e2])), .inr ⟨j, rest, rfl, by omega, hj'⟩, h.nea, h.neb, h.neab⟩, fun x hx hxj => hfr x hx fun e2 => hxj (by rw [e2]), hmo⟩
      · have := hq hall
        subst this
        exact ⟨_, _, _, e2, Nat.le_refl _, h, fun _ _ _ => rfl, fun _ h => h⟩
    by_cases hq0 : 0 < q
    · obtain ⟨f, rfl⟩ : ∃ f', f = f' + 1 := ⟨f - 1, by omega⟩
      have c1 := ints_at l' rest q hql
      have c2 := ints_at l' rest ((q - 1) / 2) (by omega)
      have b1 : Nat.blt q (m + 1) = true := by rw [Nat.blt_eq]; omega
      have b2 : Nat.blt ((q - 1) / 2) (m + 1) = true := by rw [Nat.blt_eq]; omega
      have w1 := wrap_pred1 q hq0 (by omega)
      have w2 := wrap_half (q - 1) (by omega)
      have d1 : decide (0 < Int.ofNat q) = true := decide_eq_true (by simp only [Int.ofNat_eq_natCast]; omega)
      have bq := b_quo (P := Try.prog) (t := 3) (cx := false) (cy := true) (k := .i64) (a := Int.ofNat (q - 1)) (b := 2) (by decide)
      by_cases hlt : l'.getD q 0 < l'.getD ((q - 1) / 2) 0
      · have t1 := fun x => ints_set l' rest q x hql
        have t2 := fun x => ints_set (l'.set q (l'.getD ((q - 1) / 2) 0)) rest ((q - 1) / 2) x (by rw [List.length_set]; omega)
        have s1 : (q < (l'.map (Value.int .i64) ++ rest).length) = True := eq_true (by simp; omega)
        have s2 : ((q - 1) / 2 < ((l'.set q (l'.getD ((q - 1) / 2) 0)).map (Value.int .i64) ++ rest).length) = True := eq_true (by simp; omega)
        repeat (first | with_reducible (first | refine n_on ?_ | refine n_seq ?_ | refine s_else ?_ | refine n_t ?_ | refine n_gt ?_ | refine d_t ?_ | refine n_nil ?_ | refine d_nil ?_ | refine n_block ?_ | refine n_skip ?_ | refine n_bon ?_ | refine n_bback ?_ | refine n_back ?_ | refine n_out ?_ | refine n_bout rfl ?_ | refine n_bfar rfl ?_ | refine n_ret ?_ | refine n_exit ?_ | refine n_label ?_ | refine n_scope ?_ | refine n_son ?_ | refine n_sback ?_) | (with_reducible (first | apply n_region | apply d_region); (simp only [JV, JU, JW, Nat.reduceAdd, Nat.zero_add]; exact rfl)) | (with_reducible (first | apply s_op | apply n_guard | apply n_cond | apply d_guard | apply d_op | apply n_fin | apply n_finb); (simp (maxDischargeDepth := 6) only [sy3.1, zY, qG, qP, qQ, qR, qS, qT, rowAt, ↓jg, ↓ji, Nat.reduceAdd, Nat.reduceEqDiff, ne_eq, jG, Nat.reduceLT, if_true, ite_true, Int.reduceLE, Int.reduceLT, Int.reduceEq, Int.reduceNeg, Int.reduceAdd, Nat.reduceSub, if_false, ite_false, fs_50.1, slA, g0, g2, hi', hj', indexAt, Option.isNone_none, Nat.mul_one, c1, c2, b1, b2, w1, w2, d1, bq, s1, s2, t1, t2, decide_eq_true hlt, kind_pure, kind_load, kind_fresh, kind_other, jg, ji, undef]; first | exact rfl | exact ⟨rfl, rfl, rfl, rfl⟩); try (with_reducible refine calmK_in ?_; decide +kernel)))
        have hs : siftUp (swp l' q ((q - 1) / 2)) f ((q - 1) / 2) = siftUp st.free m m := by
          rw [← hsift, siftUp, if_pos ⟨hq0, hlt⟩]
        refine ⟨(q - 1) / 2, by omega, f, _, _, _, swp l' q ((q - 1) / 2), rest, rfl, ?_, ?_, by omega, by rw [swp_len]; omega, by rw [swp_len, hlm], hs, by omega, ?_, ?_, fun x hx hxj => ?_, fun hall => ?_⟩
        · simp only [qC, qD, qE, qF, Tr.get_nil, ne_eq, not_false_eq_true, Nat.reduceEqDiff, g0]
        · simp only [qC, qD, qE, qF, Tr.get_nil, ne_eq, not_false_eq_true, Nat.reduceEqDiff]
        · rw [qF _ _ _ _ (Ne.symm hji), qF _ _ _ _ (Ne.symm hji)]; exact hi'
        · rw [qE]; rfl
        · rw [qF _ _ _ _ hxj, qF _ _ _ _ hxj]; exact hfr x hx hxj
        · exfalso
          simp only [all_relogL, js, ble_old hj, List.all_nil, Bool.and_false, Bool.false_and, Bool.false_eq_true] at hall
      · repeat (first | with_reducible (first | refine n_on ?_ | refine n_seq ?_ | refine s_else ?_ | refine n_t ?_ | refine n_gt ?_ | refine d_t ?_ | refine n_nil ?_ | refine d_nil ?_ | refine n_block ?_ | refine n_skip ?_ | refine n_bon ?_ | refine n_bback ?_ | refine n_back ?_ | refine n_out ?_ | refine n_bout rfl ?_ | refine n_bfar rfl ?_ | refine n_ret ?_ | refine n_exit ?_ | refine n_label ?_ | refine n_scope ?_ | refine n_son ?_ | refine n_sback ?_) | (with_reducible (first | apply n_region | apply d_region); (simp only [JV, JU, JW, Nat.reduceAdd, Nat.zero_add]; exact rfl)) | (with_reducible (first | apply s_op | apply n_guard | apply n_cond | apply d_guard | apply d_op | apply n_fin | apply n_finb); (simp (maxDischargeDepth := 6) only [sy3.1, zY, qG, qP, qQ, qR, qS, qT, rowAt, ↓jg, ↓ji, Nat.reduceAdd, Nat.reduceEqDiff, ne_eq, jG, Nat.reduceLT, if_true, ite_true, Int.reduceLE, Int.reduceLT, Int.reduceEq, Int.reduceNeg, Int.reduceAdd, Nat.reduceSub, if_false, ite_false, fs_50.1, slA, g0, g2, hi', hj', indexAt, Option.isNone_none, Nat.mul_one, c1, c2, b1, b2, w1, w2, d1, bq, decide_eq_false hlt, kind_pure, kind_load, kind_fresh, kind_other, jg, ji, undef]; first | exact rfl | exact ⟨rfl, rfl, rfl, rfl⟩); try (with_reducible refine calmK_in ?_; decide +kernel)))
        refine hends ?_
        rw [← hsift, siftUp, if_neg (fun h => hlt h.2)]
    · have d0 : decide (0 < Int.ofNat q) = false := decide_eq_false (by simp only [Int.ofNat_eq_natCast]; omega)
      repeat (first | with_reducible (first | refine n_on ?_ | refine n_seq ?_ | refine s_else ?_ | refine n_t ?_ | refine n_gt ?_ | refine d_t ?_ | refine n_nil ?_ | refine d_nil ?_ | refine n_block ?_ | refine n_skip ?_ | refine n_bon ?_ | refine n_bback ?_ | refine n_back ?_ | refine n_out ?_ | refine n_bout rfl ?_ | refine n_bfar rfl ?_ | refine n_ret ?_ | refine n_exit ?_ | refine n_label ?_ | refine n_scope ?_ | refine n_son ?_ | refine n_sback ?_) | (with_reducible (first | apply n_region | apply d_region); (simp only [JV, JU, JW, Nat.reduceAdd, Nat.zero_add]; exact rfl)) | (with_reducible (first | apply s_op | apply n_guard | apply n_cond | apply d_guard | apply d_op | apply n_fin | apply n_finb); (simp (maxDischargeDepth := 6) only [sy3.1, zY, qG, qP, qQ, qR, qS, qT, rowAt, ↓jg, ↓ji, Nat.reduceAdd, Nat.reduceEqDiff, ne_eq, jG, Nat.reduceLT, if_true, ite_true, Int.reduceLE, Int.reduceLT, Int.reduceEq, Int.reduceNeg, Int.reduceAdd, Nat.reduceSub, if_false, ite_false, fs_50.1, slA, g0, g2, hi', hj', d0, kind_pure, kind_load, kind_fresh, kind_other, jg, ji, undef]; first | exact rfl | exact ⟨rfl, rfl, rfl, rfl⟩); try (with_reducible refine calmK_in ?_; decide +kernel)))
      refine hends ?_
      rw [← hsift]
      cases f with
      | zero => rfl
      | succ f => rw [siftUp, if_neg (fun h => hq0 h.1)]
  · refine ⟨m, o, nx + 7, [], st.free, rest0, rfl, ?_, ?_, Nat.le_refl _, by omega, hm, rfl, by omega, by rw [hr, hm], hrow, fun _ _ _ => rfl, fun _ => rfl⟩ <;> simp (maxDischargeDepth := 6) only [sy3.1, zY, qG, qP, qQ, qR, qS, qT, rowAt, ↓jg, ↓ji, Nat.reduceAdd, Nat.reduceEqDiff, ne_eq, jG, Nat.reduceLT, if_true, ite_true, Int.reduceLE, Int.reduceLT, Int.reduceEq, Int.reduceNeg, Int.reduceAdd, Nat.reduceSub, if_false, ite_false, fs_50.1]
end
end Go.Proofs.Ythnlkahgmbadoaa

namespace Go.Proofs.Ythnlkahgmbadoaa
open Go.RowKit
set_option linter.unusedSimpArgs false
set_option linter.unusedVariables false
set_option maxRecDepth 100000

section
variable {O : Helps} {n : Nat} {o : Tr AObj} {nx : Nat} {lg : List Nat} {i : Nat} {a b : Option Nat} {st : PS}
set_option maxHeartbeats 16000000 in
theorem pgive_ok (hO : Clear O) (h : PoolIn o nx i a b st) (hG : Good st) (id : Int) (hn : st.sizes.length < n) :
    Got (oCall Try.prog [] O (n + 3) 33 [.pointer (some ⟨i, 0, none⟩), .int .i64 id] ⟨o, nx, lg⟩) (PoolTo o nx lg i a b st (giveP st id).1 (.int .i64 (giveP st id).2)) := by
  obtain ⟨z, cf, hr, hcf⟩ := h.row
  have hi := h.lt
  have hu0 := hG.used0
  have hle := hG.le
  have hb1 := hG.b1
  have hsz := hG.len
  have hcnt := hG.cnt
  have hh := fun q => phas_ok (n := n + 1) (nx := nx + q) (lg := []) hO (h.keep (Nat.le_add_right _ _) fun _ _ => rfl) hsz id
  rw [y_fn (rs := [.tmp 4]) (hO _ (by decide)) Try.func33 rfl (by kernel_rfl) rfl rfl]
  unfold giveP
  cases hP : hasP st id with
  | false =>
    rw [hP] at hh
    repeat (first | with_reducible (first | refine n_on ?_ | refine n_seq ?_ | refine s_else ?_ | refine n_t ?_ | refine n_gt ?_ | refine d_t ?_ | refine n_nil ?_ | refine d_nil ?_ | refine n_block ?_ | refine n_skip ?_ | refine n_bon ?_ | refine n_bback ?_ | refine n_back ?_ | refine n_out ?_ | refine n_bout rfl ?_ | refine n_bfar rfl ?_ | refine n_ret ?_ | refine n_exit ?_ | refine n_label ?_ | refine n_scope ?_ | refine n_son ?_ | refine n_sback ?_) | (with_reducible (first | apply n_region | apply d_region); (simp only [JV, JU, JW, Nat.reduceAdd, Nat.zero_add]; exact rfl)) | (with_reducible (first | apply s_op | apply n_guard | apply n_cond | apply d_guard | apply d_op | apply n_fin | apply n_finb); (simp (maxDischargeDepth := 6) only [sy3.1, zY, qG, qP, qQ, qR, qS, qT, rowAt, ↓jg, ↓ji, Nat.reduceAdd, Nat.reduceEqDiff, ne_eq, jG, Nat.reduceLT, if_true, ite_true, Int.reduceLE, Int.reduceLT, Int.reduceEq, Int.reduceNeg, Int.reduceAdd, Nat.reduceSub, if_false, ite_false, fs_33.1, slA, hr, pnone_ok hO hr, hh, kind_pure, kind_load, kind_fresh, kind_other, jg, ji, undef]; first | exact rfl | exact ⟨rfl, rfl, rfl, rfl⟩); try (with_reducible refine calmK_in ?_; decide +kernel)))
    simp only [Bool.false_eq_true, if_false]
    exact quiet_end (by rfl) (by rfl) (.same h _)
  | true =>
    rw [hP] at hh
    simp only [if_true]
    obtain ⟨k, hid, hk, h0, hw⟩ := hasP_in hsz hP
    have hku := usedOf_le hG hk h0
    obtain ⟨j, rest, rfl, hj, hrow, hc⟩ := h.sz.at hk
    have hji : j ≠ i := fun e => h.nea (by rw [e])
    have hij := Ne.symm hji
    have ek : (id - 1).toNat = k := by omega
    rw [ek]
    have b1 : Nat.blt k st.sizes.length = true := by rw [Nat.blt_eq]; exact hk
    have t1 := fun y => ints_set st.sizes rest k y hk
    have s1 : (k < (st.sizes.map (Value.int .i64) ++ rest).length) = True := eq_true (by simp; omega)
    have w1 : IntKind.i64.wrap (st.used - st.sizes.getD k 0) = st.used - st.sizes.getD k 0 := wrap_small _ (by omega) (by omega)
    have hc1 : 1 ≤ st.count := by
      have := hG.count
      have hm : (idsFrom st.sizes 0).length + (freeFrom st.sizes 0).length = st.sizes.length := ids_free_len _ _
      rcases Nat.eq_zero_or_pos (idsFrom st.sizes 0).length with e | e
      · exfalso
        have hp := hG.free.length_eq
        have : ∀ (l : List Int) (i k : Nat), k < l.length → 0 ≤ l.getD k 0 → 0 < (idsFrom l i).length := by
          intro l
          induction l with
          | nil => intro i k h; simp at h
          | cons s l ih =>
            intro i k h h0
            simp only [idsFrom]
            split
            · simp
            · cases k with
              | zero => rename_i hs; exact absurd (by simpa [List.getD] using h0) hs
              | succ k => exact ih (i + 1) k (by simpa using h) (by simpa [List.getD] using h0)
        have := this st.sizes 0 k hk h0
        omega
      · omega
    have w2 : IntKind.i64.wrap (st.count - 1) = st.count - 1 := wrap_small _ (by omega) (by omega)
    have hfl : st.free.length ≤ st.sizes.length := by omega
    have hpool : ∀ (o4 : Tr AObj) (nx4 : Nat) (b4 : Option Nat) (fr : List Int), nx ≤ nx4 → b4 ≠ some i → b4 ≠ some j → IntsIn o4 nx4 b4 fr → o4.get i = some (.row [.bool true, .int .i64 st.bound, .int .i64 (st.used - st.sizes.getD k 0), .int .i64 (st.count - 1), .slice (slA (some j)) st.sizes.length 0, .slice (slA b4) fr.length 0] 88 z true) →
        o4.get j = some (.row ((st.sizes.set k (-1)).map (Value.int .i64) ++ rest) 3 1 true) → PoolIn o4 nx4 i (some j) b4 ⟨st.bound, st.used - st.sizes.getD k 0, st.count - 1, st.sizes.set k (-1), fr⟩ :=
      fun o4 nx4 b4 fr hn4 hb4 hb5 hI hi4 hj4 => ⟨by omega, ⟨z, 0, by rw [hi4]; simp only [List.length_set], .inl rfl, .inr fun e => (by have := congrArg List.length e; rw [List.length_set] at this; simp only [List.length_nil] at this; omega)⟩, .inr ⟨j, rest, rfl, by omega, hj4⟩, hI, h.nea, hb4, fun q e => by cases e; exact hb5⟩
    have hfin : ∀ (o4 o5 : Tr AObj) (nx4 nx5 : Nat) (lg4 lg5 : List Nat) (b4 : Option Nat), nx ≤ nx4 → nx4 ≤ nx5 → i ∈ lg4 → (∀ y, y ∈ lg4 → y ∈ lg5) → PoolIn o5 nx5 i (some j) b4 ⟨st.bound, st.used - st.sizes.getD k 0, st.count - 1, st.sizes.set k (-1), siftUp (st.free ++ [id]) st.free.length st.free.length⟩ →
        (∀ x, x < nx4 → b4 ≠ some x → o5.get x = o4.get x) → (∀ x, x < nx → ¬ PMine i (some j) b x → o4.get x = o.get x) → (∃ q, b4 = some q ∧ nx ≤ q) →
        PoolTo o nx lg i (some j) b st ⟨st.bound, st.used - st.sizes.getD k 0, st.count - 1, st.sizes.set k (-1), heapPush st.free id⟩ (.int .i64 0) (leave ⟨o, nx, lg⟩ (.int .i64 0) ⟨o5, nx5, lg5⟩) := by
      rintro o4 o5 nx4 nx5 lg4 lg5 b4 h1 h2 h3 h4 h5 h6 h7 ⟨q, rfl, hq⟩
      refine loud_end (h4 _ h3) hi fun l' hmo hin => ?_
      refine ⟨_, _, _, some j, some q, rfl, by omega, h5, fun x hx hm => ?_, .inl rfl, .inr ⟨q, rfl, hq⟩, hmo, .inl (hin i (h4 _ h3) hi)⟩
      rw [h6 x (by omega) (by intro e; cases e; omega)]; exact h7 x hx hm
    rcases h.fr with ⟨rfl, e⟩ | ⟨jfr, restb, rfl, hjb, hrowb⟩
    · obtain rfl := hcf.nil
      rw [e] at hr hfin ⊢
      repeat (first | with_reducible (first | refine n_on ?_ | refine n_seq ?_ | refine s_else ?_ | refine n_t ?_ | refine n_gt ?_ | refine d_t ?_ | refine n_nil ?_ | refine d_nil ?_ | refine n_block ?_ | refine n_skip ?_ | refine n_bon ?_ | refine n_bback ?_ | refine n_back ?_ | refine n_out ?_ | refine n_bout rfl ?_ | refine n_bfar rfl ?_ | refine n_ret ?_ | refine n_exit ?_ | refine n_label ?_ | refine n_scope ?_ | refine n_son ?_ | refine n_sback ?_) | (with_reducible (first | apply n_region | apply d_region); (simp only [JV, JU, JW, Nat.reduceAdd, Nat.zero_add]; exact rfl)) | (with_reducible (first | apply s_op | apply n_guard | apply n_cond | apply d_guard | apply d_op | apply n_fin | apply n_finb); (simp (maxDischargeDepth := 6) only [sy3.1, zY, qG, qP, qQ, qR, qS, qT, rowAt, ↓jg, ↓ji, Nat.reduceAdd, Nat.reduceEqDiff, ne_eq, jG, Nat.reduceLT, if_true, ite_true, Int.reduceLE, Int.reduceLT, Int.reduceEq, Int.reduceNeg, Int.reduceAdd, Nat.reduceSub, if_false, ite_false, fs_33.1, slA, hr, pnone_ok hO hr, hh, hrow, hc, hw, b1, t1, s1, w1, w2, hi, hj, hij, hji, indexAt, Option.isNone_none, Nat.mul_one, st_buildSliceV, build_int, iapp_none id, kind_pure, kind_load, kind_fresh, kind_other, jg, ji, undef]; first | exact rfl | exact ⟨rfl, rfl, rfl, rfl⟩); try (with_reducible refine calmK_in ?_; decide +kernel)))
      refine s_do _ (by
        simp (maxDischargeDepth := 6) only [sy3.1, zY, qG, qP, qQ, qR, qS, qT, rowAt, ↓jg, ↓ji, Nat.reduceAdd, Nat.reduceEqDiff, ne_eq, jG, Nat.reduceLT, if_true, ite_true, Int.reduceLE, Int.reduceLT, Int.reduceEq, Int.reduceNeg, Int.reduceAdd, Nat.reduceSub, if_false, ite_false, fs_33.1]
        exact pup_ok (m := 0) (st := ⟨st.bound, st.used - st.sizes.getD k 0, st.count - 1, st.sizes.set k (-1), [id]⟩) hO (hpool _ _ (some (nx + 48)) [id] (by omega) (by intro e; cases e; omega) (by intro e; cases e; omega) (.inr ⟨_, [], rfl, by omega, by (repeat (first | rw [qE] | rw [qF _ _ _ _ (by omega)])); rfl⟩) (by (repeat (first | rw [qE] | rw [qF _ _ _ _ (by omega)])); rfl) (by (repeat (first | rw [qE] | rw [qF _ _ _ _ (by omega)])))) rfl (by omega) (by omega)) ?_
      rintro v1 H1 ⟨o1, nx1, lg1, heq, hn1, h6, hfr, hmo1⟩
      cases heq
      repeat (first | with_reducible (first | refine n_on ?_ | refine n_seq ?_ | refine s_else ?_ | refine n_t ?_ | refine n_gt ?_ | refine d_t ?_ | refine n_nil ?_ | refine d_nil ?_ | refine n_block ?_ | refine n_skip ?_ | refine n_bon ?_ | refine n_bback ?_ | refine n_back ?_ | refine n_out ?_ | refine n_bout rfl ?_ | refine n_bfar rfl ?_ | refine n_ret ?_ | refine n_exit ?_ | refine n_label ?_ | refine n_scope ?_ | refine n_son ?_ | refine n_sback ?_) | (with_reducible (first | apply n_region | apply d_region); (simp only [JV, JU, JW, Nat.reduceAdd, Nat.zero_add]; exact rfl)) | (with_reducible (first | apply s_op | apply n_guard | apply n_cond | apply d_guard | apply d_op | apply n_fin | apply n_finb); (simp (maxDischargeDepth := 6) only [sy3.1, zY, qG, qP, qQ, qR, qS, qT, rowAt, ↓jg, ↓ji, Nat.reduceAdd, Nat.reduceEqDiff, ne_eq, jG, Nat.reduceLT, if_true, ite_true, Int.reduceLE, Int.reduceLT, Int.reduceEq, Int.reduceNeg, Int.reduceAdd, Nat.reduceSub, if_false, ite_false, fs_33.1, hr, kind_pure, kind_load, kind_fresh, kind_other, jg, ji, undef]; first | exact rfl | exact ⟨rfl, rfl, rfl, rfl⟩); try (with_reducible refine calmK_in ?_; decide +kernel)))
      refine hfin _ _ _ _ _ _ (some (nx + 48)) (by omega) (Nat.le_trans hn1 (by omega)) ?_ hmo1 (h6.keep (by omega) fun _ _ => rfl) hfr (fun x hx hm => ?_) ⟨_, rfl, by omega⟩
      · simp only [in_relogL, in_note, true_or, or_true]
      · have e1 : x ≠ i := fun e => hm (.inl e)
        have e2 : x ≠ j := fun e => hm (.inr (.inl (by rw [e])))
        (repeat (first | rw [qE] | rw [qF _ _ _ _ (by omega)]))
    · have hjbi : jfr ≠ i := fun e => h.neb (by rw [e])
      have hijb := Ne.symm hjbi
      have hjbj : jfr ≠ j := fun e => h.neab j rfl (by rw [e])
      have hjjb := Ne.symm hjbj
      rcases hcf.1 with rfl | ⟨rfl, hfe, _⟩
      · repeat (first | with_reducible (first | refine n_on ?_ | refine n_seq ?_ | refine s_else ?_ | refine n_t ?_ | refine n_gt ?_ | refine d_t ?_ | refine n_nil ?_ | refine d_nil ?_ | refine n_block ?_ | refine n_skip ?_ | refine n_bon ?_ | refine n_bback ?_ | refine n_back ?_ | refine n_out ?_ | refine n_bout rfl ?_ | refine n_bfar rfl ?_ | refine n_ret ?_ | refine n_exit ?_ | refine n_label ?_ | refine n_scope ?_ | refine n_son ?_ | refine n_sback ?_) | (with_reducible (first | apply n_region | apply d_region); (simp only [JV, JU, JW, Nat.reduceAdd, Nat.zero_add]; exact rfl)) | (with_reducible (first | apply s_op | apply n_guard | apply n_cond | apply d_guard | apply d_op | apply n_fin | apply n_finb); (simp (maxDischargeDepth := 6) only [sy3.1, zY, qG, qP, qQ, qR, qS, qT, rowAt, ↓jg, ↓ji, Nat.reduceAdd, Nat.reduceEqDiff, ne_eq, jG, Nat.reduceLT, if_true, ite_true, Int.reduceLE, Int.reduceLT, Int.reduceEq, Int.reduceNeg, Int.reduceAdd, Nat.reduceSub, if_false, ite_false, fs_33.1, slA, hr, pnone_ok hO hr, hh, hrow, hrowb, hc, hw, b1, t1, s1, w1, w2, hi, hj, hjb, hij, hji, hijb, hjbi, hjbj, hjjb, indexAt, Option.isNone_none, Nat.mul_one, st_buildSliceV, build_int, iapp_some id jfr st.free restb (by omega), kind_pure, kind_load, kind_fresh, kind_other, jg, ji, undef]; first | exact rfl | exact ⟨rfl, rfl, rfl, rfl⟩); try (with_reducible refine calmK_in ?_; decide +kernel)))
        refine s_do _ (by
          simp (maxDischargeDepth := 6) only [sy3.1, zY, qG, qP, qQ, qR, qS, qT, rowAt, ↓jg, ↓ji, Nat.reduceAdd, Nat.reduceEqDiff, ne_eq, jG, Nat.reduceLT, if_true, ite_true, Int.reduceLE, Int.reduceLT, Int.reduceEq, Int.reduceNeg, Int.reduceAdd, Nat.reduceSub, if_false, ite_false, fs_33.1]
          exact pup_ok (m := st.free.length) (st := ⟨st.bound, st.used - st.sizes.getD k 0, st.count - 1, st.sizes.set k (-1), st.free ++ [id]⟩) hO (hpool _ _ (some (nx + 48)) (st.free ++ [id]) (by omega) (by intro e; cases e; omega) (by intro e; cases e; omega) (.inr ⟨_, [], rfl, by omega, by rw [List.append_nil]; (repeat (first | rw [qE] | rw [qF _ _ _ _ (by omega)]))⟩) (by rw [List.length_append]; (repeat (first | rw [qE] | rw [qF _ _ _ _ (by omega)])); rfl) (by (repeat (first | rw [qE] | rw [qF _ _ _ _ (by omega)])))) (by simp) (by omega) (by omega)) ?_
        rintro v1 H1 ⟨o1, nx1, lg1, heq, hn1, h6, hfr, hmo1⟩
        cases heq
        repeat (first | with_reducible (first | refine n_on ?_ | refine n_seq ?_ | refine s_else ?_ | refine n_t ?_ | refine n_gt ?_ | refine d_t ?_ | refine n_nil ?_ | refine d_nil ?_ | refine n_block ?_ | refine n_skip ?_ | refine n_bon ?_ | refine n_bback ?_ | refine n_back ?_ | refine n_out ?_ | refine n_bout rfl ?_ | refine n_bfar rfl ?_ | refine n_ret ?_ | refine n_exit ?_ | refine n_label ?_ | refine n_scope ?_ | refine n_son ?_ | refine n_sback ?_) | (with_reducible (first | apply n_region | apply d_region); (simp only [JV, JU, JW, Nat.reduceAdd, Nat.zero_add]; exact rfl)) | (with_reducible (first | apply s_op | apply n_guard | apply n_cond | apply d_guard | apply d_op | apply n_fin | apply n_finb); (simp (maxDischargeDepth := 6) only [sy3.1, zY, qG, qP, qQ, qR, qS, qT, rowAt, ↓jg, ↓ji, Nat.reduceAdd, Nat.reduceEqDiff, ne_eq, jG, Nat.reduceLT, if_true, ite_true, Int.reduceLE, Int.reduceLT, Int.reduceEq, Int.reduceNeg, Int.reduceAdd, Nat.reduceSub, if_false, ite_false, fs_33.1, hr, kind_pure, kind_load, kind_fresh, kind_other, jg, ji, undef]; first | exact rfl | exact ⟨rfl, rfl, rfl, rfl⟩); try (with_reducible refine calmK_in ?_; decide +kernel)))
        refine hfin _ _ _ _ _ _ (some (nx + 48)) (by omega) (Nat.le_trans hn1 (by omega)) ?_ hmo1 (h6.keep (by omega) fun _ _ => rfl) hfr (fun x hx hm => ?_) ⟨_, rfl, by omega⟩
        · simp only [in_relogL, in_note, true_or, or_true]
        · have e1 : x ≠ i := fun e => hm (.inl e)
          have e2 : x ≠ j := fun e => hm (.inr (.inl (by rw [e])))
          have e3 : x ≠ jfr := fun e => hm (.inr (.inr (by rw [e])))
          (repeat (first | rw [qE] | rw [qF _ _ _ _ (by omega)]))
      · rw [hfe] at hr hfin hrowb ⊢
        have hcap : ∀ (o : Tr AObj) (nx : Nat) (lg : List Nat) (fid q c : Nat), o.get q = some (.row [.int .i64 id] 3 1 true) → o.get jfr = some (.row restb 3 1 true) → _ := fun o nx lg fid q c h1 h2 => iapp_cap0 id jfr o nx lg fid q c restb _ 1 true h1 h2
        repeat (first | with_reducible (first | refine n_on ?_ | refine n_seq ?_ | refine s_else ?_ | refine n_t ?_ | refine n_gt ?_ | refine d_t ?_ | refine n_nil ?_ | refine d_nil ?_ | refine n_block ?_ | refine n_skip ?_ | refine n_bon ?_ | refine n_bback ?_ | refine n_back ?_ | refine n_out ?_ | refine n_bout rfl ?_ | refine n_bfar rfl ?_ | refine n_ret ?_ | refine n_exit ?_ | refine n_label ?_ | refine n_scope ?_ | refine n_son ?_ | refine n_sback ?_) | (with_reducible (first | apply n_region | apply d_region); (simp only [JV, JU, JW, Nat.reduceAdd, Nat.zero_add]; exact rfl)) | (with_reducible (first | apply s_op | apply n_guard | apply n_cond | apply d_guard | apply d_op | apply n_fin | apply n_finb); (simp (maxDischargeDepth := 6) only [sy3.1, zY, qG, qP, qQ, qR, qS, qT, rowAt, ↓jg, ↓ji, Nat.reduceAdd, Nat.reduceEqDiff, ne_eq, jG, Nat.reduceLT, if_true, ite_true, Int.reduceLE, Int.reduceLT, Int.reduceEq, Int.reduceNeg, Int.reduceAdd, Nat.reduceSub, if_false, ite_false, fs_33.1, slA, hr, pnone_ok hO hr, hh, hrow, hrowb, hc, hw, b1, t1, s1, w1, w2, hi, hj, hjb, hij, hji, hijb, hjbi, hjbj, hjjb, indexAt, Option.isNone_none, Nat.mul_one, st_buildSliceV, build_int, hcap, kind_pure, kind_load, kind_fresh, kind_other, jg, ji, undef]; first | exact rfl | exact ⟨rfl, rfl, rfl, rfl⟩); try (with_reducible refine calmK_in ?_; decide +kernel)))
        refine s_do _ (by
          simp (maxDischargeDepth := 6) only [sy3.1, zY, qG, qP, qQ, qR, qS, qT, rowAt, ↓jg, ↓ji, Nat.reduceAdd, Nat.reduceEqDiff, ne_eq, jG, Nat.reduceLT, if_true, ite_true, Int.reduceLE, Int.reduceLT, Int.reduceEq, Int.reduceNeg, Int.reduceAdd, Nat.reduceSub, if_false, ite_false, fs_33.1]
          exact pup_ok (m := 0) (st := ⟨st.bound, st.used - st.sizes.getD k 0, st.count - 1, st.sizes.set k (-1), [id]⟩) hO (hpool _ _ (some (nx + 48)) ([id]) (by omega) (by intro e; cases e; omega) (by intro e; cases e; omega) (.inr ⟨_, [], rfl, by omega, by (repeat (first | rw [qE] | rw [qF _ _ _ _ (by omega)])); rfl⟩) (by (repeat (first | rw [qE] | rw [qF _ _ _ _ (by omega)])); rfl) (by (repeat (first | rw [qE] | rw [qF _ _ _ _ (by omega)])))) rfl (by omega) (by omega)) ?_
        rintro v1 H1 ⟨o1, nx1, lg1, heq, hn1, h6, hfr, hmo1⟩
        cases heq
        repeat (first | with_reducible (first | refine n_on ?_ | refine n_seq ?_ | refine s_else ?_ | refine n_t ?_ | refine n_gt ?_ | refine d_t ?_ | refine n_nil ?_ | refine d_nil ?_ | refine n_block ?_ | refine n_skip ?_ | refine n_bon ?_ | refine n_bback ?_ | refine n_back ?_ | refine n_out ?_ | refine n_bout rfl ?_ | refine n_bfar rfl ?_ | refine n_ret ?_ | refine n_exit ?_ | refine n_label ?_ | refine n_scope ?_ | refine n_son ?_ | refine n_sback ?_) | (with_reducible (first | apply n_region | apply d_region); (simp only [JV, JU, JW, Nat.reduceAdd, Nat.zero_add]; exact rfl)) | (with_reducible (first | apply s_op | apply n_guard | apply n_cond | apply d_guard | apply d_op | apply n_fin | apply n_finb); (simp (maxDischargeDepth := 6) only [sy3.1, zY, qG, qP, qQ, qR, qS, qT, rowAt, ↓jg, ↓ji, Nat.reduceAdd, Nat.reduceEqDiff, ne_eq, jG, Nat.reduceLT, if_true, ite_true, Int.reduceLE, Int.reduceLT, Int.reduceEq, Int.reduceNeg, Int.reduceAdd, Nat.reduceSub, if_false, ite_false, fs_33.1, hr, kind_pure, kind_load, kind_fresh, kind_other, jg, ji, undef]; first | exact rfl | exact ⟨rfl, rfl, rfl, rfl⟩); try (with_reducible refine calmK_in ?_; decide +kernel)))
        refine hfin _ _ _ _ _ _ (some (nx + 48)) (by omega) (Nat.le_trans hn1 (by omega)) ?_ hmo1 (h6.keep (by omega) fun _ _ => rfl) hfr (fun x hx hm => ?_) ⟨_, rfl, by omega⟩
        · simp only [in_relogL, in_note, true_or, or_true]
        · have e1 : x ≠ i := fun e => hm (.inl e)
          have e2 : x ≠ j := fun e => hm (.inr (.inl (by rw [e])))
          have e3 : x ≠ jfr := fun e => hm (.inr (.inr (by rw [e])))
          (repeat (first | rw [qE] | rw [qF _ _ _ _ (by omega)]))
/-- what Resize leaves: where it answers 0 the pool's block is noted -/
def ResizeTo (o : Tr AObj) (nx : Nat) (lg : List Nat) (i : Nat) (a b : Option Nat) (st : PS) (x : PS × Int) (r : Value × AHeap) : Prop := PoolTo o nx lg i a b st x.1 (.int .i64 x.2) r ∧ (x.2 = 0 → i ∈ r.2.log)
set_option maxHeartbeats 16000000 in
theorem presize_log (hO : Clear O) (h : PoolIn o nx i a b st) (hG : Good st) (id size : Int) (hn : st.sizes.length < n) :
    Got (oCall Try.prog [] O (n + 3) 38 [.pointer (some ⟨i, 0, none⟩), .int .i64 id, .int .i64 size] ⟨o, nx, lg⟩) (ResizeTo o nx lg i a b st (resizeP st id size)) := by
  obtain ⟨z, cf, hr, hcf⟩ := h.row
  have hi := h.lt
  have hu0 := hG.used0
  have hle := hG.le
  have hb1 := hG.b1
  have hsz := hG.len
  have hh := fun q => phas_ok (n := n + 1) (nx := nx + q) (lg := []) hO (h.keep (Nat.le_add_right _ _) fun _ _ => rfl) hsz id
  rw [y_fn (rs := [.tmp 6]) (hO _ (by decide)) Try.func38 rfl (by kernel_rfl) rfl rfl]
  cases hP : hasP st id with
  | false =>
    have hR : resizeP st id size = (st, 2) := by unfold resizeP; rw [if_pos (.inl hP)]
    rw [hP] at hh
    rw [hR]
    repeat (first | with_reducible (first | refine n_on ?_ | refine n_seq ?_ | refine s_else ?_ | refine n_t ?_ | refine n_gt ?_ | refine d_t ?_ | refine n_nil ?_ | refine d_nil ?_ | refine n_block ?_ | refine n_skip ?_ | refine n_bon ?_ | refine n_bback ?_ | refine n_back ?_ | refine n_out ?_ | refine n_bout rfl ?_ | refine n_bfar rfl ?_ | refine n_ret ?_ | refine n_exit ?_ | refine n_label ?_ | refine n_scope ?_ | refine n_son ?_ | refine n_sback ?_) | (with_reducible (first | apply n_region | apply d_region); (simp only [JV, JU, JW, Nat.reduceAdd, Nat.zero_add]; exact rfl)) | (with_reducible (first | apply s_op | apply n_guard | apply n_cond | apply d_guard | apply d_op | apply n_fin | apply n_finb); (simp (maxDischargeDepth := 6) only [sy3.1, zY, qG, qP, qQ, qR, qS, qT, rowAt, ↓jg, ↓ji, Nat.reduceAdd, Nat.reduceEqDiff, ne_eq, jG, Nat.reduceLT, if_true, ite_true, Int.reduceLE, Int.reduceLT, Int.reduceEq, Int.reduceNeg, Int.reduceAdd, Nat.reduceSub, if_false, ite_false, fs_38.1, slA, hr, pnone_ok hO hr, hh, kind_pure, kind_load, kind_fresh, kind_other, jg, ji, undef]; first | exact rfl | exact ⟨rfl, rfl, rfl, rfl⟩); try (with_reducible refine calmK_in ?_; decide +kernel)))
    exact quiet_end (by rfl) (by rfl) ⟨.same h _, fun e => by cases e⟩
  | true =>
    rw [hP] at hh
    by_cases h1 : size < 0
    · have hR : resizeP st id size = (st, 2) := by unfold resizeP; rw [if_pos (.inr h1)]
      rw [hR]
      repeat (first | with_reducible (first | refine n_on ?_ | refine n_seq ?_ | refine s_else ?_ | refine n_t ?_ | refine n_gt ?_ | refine d_t ?_ | refine n_nil ?_ | refine d_nil ?_ | refine n_block ?_ | refine n_skip ?_ | refine n_bon ?_ | refine n_bback ?_ | refine n_back ?_ | refine n_out ?_ | refine n_bout rfl ?_ | refine n_bfar rfl ?_ | refine n_ret ?_ | refine n_exit ?_ | refine n_label ?_ | refine n_scope ?_ | refine n_son ?_ | refine n_sback ?_) | (with_reducible (first | apply n_region | apply d_region); (simp only [JV, JU, JW, Nat.reduceAdd, Nat.zero_add]; exact rfl)) | (with_reducible (first | apply s_op | apply n_guard | apply n_cond | apply d_guard | apply d_op | apply n_fin | apply n_finb); (simp (maxDischargeDepth := 6) only [sy3.1, zY, qG, qP, qQ, qR, qS, qT, rowAt, ↓jg, ↓ji, Nat.reduceAdd, Nat.reduceEqDiff, ne_eq, jG, Nat.reduceLT, if_true, ite_true, Int.reduceLE, Int.reduceLT, Int.reduceEq, Int.reduceNeg, Int.reduceAdd, Nat.reduceSub, if_false, ite_false, fs_38.1, slA, hr, pnone_ok hO hr, hh, decide_eq_true h1, kind_pure, kind_load, kind_fresh, kind_other, jg, ji, undef]; first | exact rfl | exact ⟨rfl, rfl, rfl, rfl⟩); try (with_reducible refine calmK_in ?_; decide +kernel)))
      exact quiet_end (by rfl) (by rfl) ⟨.same h _, fun e => by cases e⟩
    have d1 := decide_eq_false h1
    obtain ⟨k, hid, hk, h0, hw⟩ := hasP_in hsz hP
    have hku := usedOf_le hG hk h0
    obtain ⟨j, rest, rfl, hj, hrow, hc⟩ := h.sz.at hk
    have hji : j ≠ i := fun e => h.nea (by rw [e])
    have hij := Ne.symm hji
    have ek : (id - 1).toNat = k := by omega
    have b1 : Nat.blt k st.sizes.length = true := by rw [Nat.blt_eq]; exact hk
    have w0 : IntKind.i64.wrap (st.bound - st.used) = st.bound - st.used := wrap_small _ (by omega) (by omega)
    have w1 : IntKind.i64.wrap (st.bound - st.used + st.sizes.getD k 0) = st.bound - st.used + st.sizes.getD k 0 := wrap_small _ (by omega) (by omega)
    have hn1 : ¬ (hasP st id = false ∨ size < 0) := fun h => h.elim (fun h => by rw [hP] at h; cases h) h1
    by_cases h2 : st.bound - st.used + st.sizes.getD k 0 < size
    · have hR : resizeP st id size = (st, 5) := by unfold resizeP; rw [if_neg hn1, ek, if_pos h2]
      rw [hR]
      repeat (first | with_reducible (first | refine n_on ?_ | refine n_seq ?_ | refine s_else ?_ | refine n_t ?_ | refine n_gt ?_ | refine d_t ?_ | refine n_nil ?_ | refine d_nil ?_ | refine n_block ?_ | refine n_skip ?_ | refine n_bon ?_ | refine n_bback ?_ | refine n_back ?_ | refine n_out ?_ | refine n_bout rfl ?_ | refine n_bfar rfl ?_ | refine n_ret ?_ | refine n_exit ?_ | refine n_label ?_ | refine n_scope ?_ | refine n_son ?_ | refine n_sback ?_) | (with_reducible (first | apply n_region | apply d_region); (simp only [JV, JU, JW, Nat.reduceAdd, Nat.zero_add]; exact rfl)) | (with_reducible (first | apply s_op | apply n_guard | apply n_cond | apply d_guard | apply d_op | apply n_fin | apply n_finb); (simp (maxDischargeDepth := 6) only [sy3.1, zY, qG, qP, qQ, qR, qS, qT, rowAt, ↓jg, ↓ji, Nat.reduceAdd, Nat.reduceEqDiff, ne_eq, jG, Nat.reduceLT, if_true, ite_true, Int.reduceLE, Int.reduceLT, Int.reduceEq, Int.reduceNeg, Int.reduceAdd, Nat.reduceSub, if_false, ite_false, fs_38.1, slA, hr, pnone_ok hO hr, hh, hrow, hc, hw, b1, w0, w1, d1, decide_eq_true h2, indexAt, Option.isNone_none, Nat.mul_one, kind_pure, kind_load, kind_fresh, kind_other, jg, ji, undef]; first | exact rfl | exact ⟨rfl, rfl, rfl, rfl⟩); try (with_reducible refine calmK_in ?_; decide +kernel)))
      exact quiet_end (by rfl) (by rfl) ⟨.same h _, fun e => by cases e⟩
    have d2 := decide_eq_false h2
    have t1 := fun y => ints_set st.sizes rest k y hk
    have s1 : (k < (st.sizes.map (Value.int .i64) ++ rest).length) = True := eq_true (by simp; omega)
    have w2 : IntKind.i64.wrap (size - st.sizes.getD k 0) = size - st.sizes.getD k 0 := by
      exact wrap_any (by omega) (by omega)
    have w3 : IntKind.i64.wrap (st.used + (size - st.sizes.getD k 0)) = st.used + (size - st.sizes.getD k 0) := wrap_small _ (by omega) (by omega)
    have hR : resizeP st id size = ({ st with used := st.used + (size - st.sizes.getD k 0), sizes := st.sizes.set k size }, 0) := by unfold resizeP; rw [if_neg hn1, ek, if_neg h2]
    rw [hR]
    repeat (first | with_reducible (first | refine n_on ?_ | refine n_seq ?_ | refine s_else ?_ | refine n_t ?_ | refine n_gt ?_ | refine d_t ?_ | refine n_nil ?_ | refine d_nil ?_ | refine n_block ?_ | refine n_skip ?_ | refine n_bon ?_ | refine n_bback ?_ | refine n_back ?_ | refine n_out ?_ | refine n_bout rfl ?_ | refine n_bfar rfl ?_ | refine n_ret ?_ | refine n_exit ?_ | refine n_label ?_ | refine n_scope ?_ | refine n_son ?_ | refine n_sback ?_) | (with_reducible (first | apply n_region | apply d_region); (simp only [JV, JU, JW, Nat.reduceAdd, Nat.zero_add]; exact rfl)) | (with_reducible (first | apply s_op | apply n_guard | apply n_cond | apply d_guard | apply d_op | apply n_fin | apply n_finb); (simp (maxDischargeDepth := 6) only [sy3.1, zY, qG, qP, qQ, qR, qS, qT, rowAt, ↓jg, ↓ji, Nat.reduceAdd, Nat.reduceEqDiff, ne_eq, jG, Nat.reduceLT, if_true, ite_true, Int.reduceLE, Int.reduceLT, Int.reduceEq, Int.reduceNeg, Int.reduceAdd, Nat.reduceSub, if_false, ite_false, fs_38.1, slA, hr, pnone_ok hO hr, hh, hrow, hc, hw, b1, w0, w1, w2, w3, d1, d2, t1, s1, hi, hj, hij, hji, indexAt, Option.isNone_none, Nat.mul_one, kind_pure, kind_load, kind_fresh, kind_other, jg, ji, undef]; first | exact rfl | exact ⟨rfl, rfl, rfl, rfl⟩); try (with_reducible refine calmK_in ?_; decide +kernel)))
    refine loud_end (x := i) (by simp only [in_relogL, in_note, true_or, or_true]) hi fun l' hmo hin => ?_
    refine ⟨⟨_, _, _, some j, b, rfl, by omega, ⟨by omega, ⟨z, cf, by (repeat (first | rw [qE] | rw [qF _ _ _ _ (by omega)])); simp only [List.length_set]; rfl, hcf.turn (by simp)⟩, .inr ⟨_, rest, rfl, by omega, by (repeat (first | rw [qE] | rw [qF _ _ _ _ (by omega)]))⟩, h.fr.keep (by omega) fun k e => ?_, h.nea, h.neb, h.neab⟩, fun x hx hm => ?_, .inl rfl, .inl rfl, hmo, .inl (hin i (by simp only [in_relogL, in_note, true_or, or_true]) hi)⟩, fun _ => hin i (by simp only [in_relogL, in_note, true_or, or_true]) hi⟩
    · have e1 : k ≠ i := fun e2 => h.neb (by rw [e, e2])
      have e2 : k ≠ j := fun e2 => h.neab j rfl (by rw [e, e2])
      (repeat (first | rw [qE] | rw [qF _ _ _ _ (by omega)]))
    · have e1 : x ≠ i := fun e => hm (.inl e)
      have e2 : x ≠ j := fun e => hm (.inr (.inl (by rw [e])))
      (repeat (first | rw [qE] | rw [qF _ _ _ _ (by omega)]))
theorem presize_ok (hO : Clear O) (h : PoolIn o nx i a b st) (hG : Good st) (id size : Int) (hn : st.sizes.length < n) :
    Got (oCall Try.prog [] O (n + 3) 38 [.pointer (some ⟨i, 0, none⟩), .int .i64 id, .int .i64 size] ⟨o, nx, lg⟩) (PoolTo o nx lg i a b st (resizeP st id size).1 (.int .i64 (resizeP st id size).2)) := (presize_log hO h hG id size hn).mono fun _ h => h.1
end
end Go.Proofs.Ythnlkahgmbadoaa
