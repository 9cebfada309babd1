/- Pool: up, on the abstract machine. -/
import Derived.Test.YticeabhilkceiaaPmUp0
namespace Go.Proofs.Yticeabhilkceiaa
open Go.RowKit
set_option linter.unusedSimpArgs false
set_option linter.unusedVariables false
set_option maxRecDepth 100000

section
variable {O : Helps} {n : Nat} {o : Tr AObj} {nx : Nat} {lg : List Nat} {i : Nat} {a b : Option Nat} {st : PS}
set_option maxHeartbeats 8000000 in
theorem pup_ok (hO : Clear O) (h : PoolIn o nx i a b st) {m : Nat} (hm : st.free.length = m + 1) (hl : m < 1000000) (hn : m < n) :
    Got (oCall Try.prog [] O (n + 1) 25 [.pointer (some ⟨i, 0, none⟩)] ⟨o, nx, lg⟩) fun r => ∃ o' nx' lg', r = (.tuple #[], ⟨o', nx', lg'⟩) ∧ nx ≤ nx' ∧ PoolIn o' nx' i a b { st with free := siftUp st.free m m } ∧ (∀ x, x < nx → b ≠ some x → o'.get x = o.get x) ∧ ∀ y, y ∈ lg → y ∈ lg' := by
  obtain ⟨z, cf, hr, hcf⟩ := h.row
  obtain ⟨j, rest0, rfl, hj, hrow⟩ : ∃ j rest, b = some j ∧ j < nx ∧ o.get j = some (.row (st.free.map (Value.int .i64) ++ rest) 3 1 true) := by
    rcases h.fr with ⟨_, e⟩ | hf
    · rw [e] at hm; simp at hm
    · exact hf
  have hji : j ≠ i := fun e => h.neb (by rw [e])
  obtain rfl : cf = 0 := hcf.zero (fun e => by rw [e] at hm; simp at hm)
  rw [y_fn (rs := []) (hO _ (by decide)) Try.func25 rfl (by kernel_rfl) rfl rfl]
  have hw0 : IntKind.i64.wrap (Int.ofNat st.free.length - 1) = Int.ofNat m := by
    rw [wrap_pred1 _ (by omega) (by omega), hm]; rfl
  repeat (first | with_reducible (first | refine n_on ?_ | refine n_seq ?_ | refine s_else ?_ | refine n_t ?_ | refine n_gt ?_ | refine d_t ?_ | refine n_nil ?_ | refine d_nil ?_ | refine n_block ?_ | refine n_skip ?_ | refine n_bon ?_ | refine n_bback ?_ | refine n_back ?_ | refine n_out ?_ | refine n_bout rfl ?_ | refine n_bfar rfl ?_ | refine n_ret ?_ | refine n_exit ?_ | refine n_label ?_ | refine n_scope ?_ | refine n_son ?_ | refine n_sback ?_) | (with_reducible (first | apply n_region | apply d_region); (simp only [JV, JU, JW, Nat.reduceAdd, Nat.zero_add]; exact rfl)) | (with_reducible (first | apply s_op | apply n_guard | apply n_cond | apply d_guard | apply d_op | apply n_fin | apply n_finb); (simp (maxDischargeDepth := 6) only [sy3.1, zY, qG, qP, qQ, qR, qS, qT, rowAt, ↓jg, ↓ji, Nat.reduceAdd, Nat.reduceEqDiff, ne_eq, jG, Nat.reduceLT, if_true, ite_true, Int.reduceLE, Int.reduceLT, Int.reduceEq, Int.reduceNeg, Int.reduceAdd, Nat.reduceSub, if_false, ite_false, fs_25.1, slA, hr, hw0, kind_pure, kind_load, kind_fresh, kind_other, jg, ji, undef]; first | exact rfl | exact ⟨rfl, rfl, rfl, rfl⟩); try (with_reducible refine calmK_in ?_; decide +kernel)))
  rw [y_loop_eq]
  refine y_loop (I := fun q e H => ∃ f o' nx' lg' l' rest, H = (⟨o', nx', lg'⟩ : AHeap) ∧ e.get 0 = some (.pointer (some ⟨i, 0, none⟩)) ∧ e.get 2 = some (.int .i64 (.ofNat q)) ∧ q ≤ f ∧ q < l'.length ∧ l'.length = m + 1 ∧ siftUp l' f q = siftUp st.free m m ∧ nx ≤ nx' ∧
    o'.get i = some (.row [.bool true, .int .i64 st.bound, .int .i64 st.used, .int .i64 st.count, .slice (slA a) st.sizes.length 0, .slice (slA (some j)) (m + 1) 0] 50 z true) ∧
    o'.get j = some (.row (l'.map (Value.int .i64) ++ rest) 3 1 true) ∧ (∀ x, x < nx → x ≠ j → o'.get x = o.get x) ∧ (lg'.all (fun x => Nat.ble nx x) = true → l' = st.free)) ?_ m _ _ _ ?_ hn
  · rintro q e H ⟨f, o', nx', lg', l', rest, rfl, g0, g2, hqf, hql, hlm, hsift, hnx, hi', hj', hfr, hq⟩
    have hends : siftUp st.free m m = l' → ∃ o2 nx2 lg2, leave ⟨o, nx, lg⟩ (.tuple #[]) ⟨o', nx' + 21, lg'⟩ = (.tuple #[], ⟨o2, nx2, lg2⟩) ∧ nx ≤ nx2 ∧ PoolIn o2 nx2 i a (some j) { st with free := siftUp st.free m m } ∧ (∀ x, x < nx → some j ≠ some x → o2.get x = o.get x) ∧ ∀ y, y ∈ lg → y ∈ lg2 := by
      intro he
      rw [he]
      rcases leave_split (o := o) (o' := o') (nx := nx) (nx' := nx' + 21) (lg := lg) (l := lg') (v := .tuple #[]) rfl with ⟨l2, e2, hmo, _⟩ | ⟨hall, e2⟩
      · refine ⟨_, _, _, e2, by omega, ⟨by have := h.lt; omega, ⟨z, 0, by rw [hi', hlm], .inl rfl, hcf.2⟩, h.sz.keep (by omega) fun x e => hfr x (h.sz.lt e) (fun e2 => h.neab x e (by rw [e2])), .inr ⟨j, rest, rfl, by omega, hj'⟩, h.nea, h.neb, h.neab⟩, fun x hx hxj => hfr x hx fun e2 => hxj (by rw [e2]), hmo⟩
      · have := hq hall
        subst this
        exact ⟨_, _, _, e2, Nat.le_refl _, h, fun _ _ _ => rfl, fun _ h => h⟩
    by_cases hq0 : 0 < q
    · obtain ⟨f, rfl⟩ : ∃ f', f = f' + 1 := ⟨f - 1, by omega⟩
      have c1 := ints_at l' rest q hql
      have c2 := ints_at l' rest ((q - 1) / 2) (by omega)
      have b1 : Nat.blt q (m + 1) = true := by rw [Nat.blt_eq]; omega
      have b2 : Nat.blt ((q - 1) / 2) (m + 1) = true := by rw [Nat.blt_eq]; omega
      have w1 := wrap_pred1 q hq0 (by omega)
      have w2 := wrap_half (q - 1) (by omega)
      have d1 : decide (0 < Int.ofNat q) = true := decide_eq_true (by simp only [Int.ofNat_eq_natCast]; omega)
      have bq := b_quo (P := Try.prog) (t := 3) (cx := false) (cy := true) (k := .i64) (a := Int.ofNat (q - 1)) (b := 2) (by decide)
      by_cases hlt : l'.getD q 0 < l'.getD ((q - 1) / 2) 0
      · have t1 := fun x => ints_set l' rest q x hql
        have t2 := fun x => ints_set (l'.set q (l'.getD ((q - 1) / 2) 0)) rest ((q - 1) / 2) x (by rw [List.length_set]; omega)
        have s1 : (q < (l'.map (Value.int .i64) ++ rest).length) = True := eq_true (by simp; omega)
        have s2 : ((q - 1) / 2 < ((l'.set q (l'.getD ((q - 1) / 2) 0)).map (Value.int .i64) ++ rest).length) = True := eq_true (by simp; omega)
        repeat (first | with_reducible (first | refine n_on ?_ | refine n_seq ?_ | refine s_else ?_ | refine n_t ?_ | refine n_gt ?_ | refine d_t ?_ | refine n_nil ?_ | refine d_nil ?_ | refine n_block ?_ | refine n_skip ?_ | refine n_bon ?_ | refine n_bback ?_ | refine n_back ?_ | refine n_out ?_ | refine n_bout rfl ?_ | refine n_bfar rfl ?_ | refine n_ret ?_ | refine n_exit ?_ | refine n_label ?_ | refine n_scope ?_ | refine n_son ?_ | refine n_sback ?_) | (with_reducible (first | apply n_region | apply d_region); (simp only [JV, JU, JW, Nat.reduceAdd, Nat.zero_add]; exact rfl)) | (with_reducible (first | apply s_op | apply n_guard | apply n_cond | apply d_guard | apply d_op | apply n_fin | apply n_finb); (simp (maxDischargeDepth := 6) only [sy3.1, zY, qG, qP, qQ, qR, qS, qT, rowAt, ↓jg, ↓ji, Nat.reduceAdd, Nat.reduceEqDiff, ne_eq, jG, Nat.reduceLT, if_true, ite_true, Int.reduceLE, Int.reduceLT, Int.reduceEq, Int.reduceNeg, Int.reduceAdd, Nat.reduceSub, if_false, ite_false, fs_25.1, slA, g0, g2, hi', hj', indexAt, Option.isNone_none, Nat.mul_one, c1, c2, b1, b2, w1, w2, d1, bq, s1, s2, t1, t2, decide_eq_true hlt, kind_pure, kind_load, kind_fresh, kind_other, jg, ji, undef]; first | exact rfl | exact ⟨rfl, rfl, rfl, rfl⟩); try (with_reducible refine calmK_in ?_; decide +kernel)))
        have hs : siftUp (swp l' q ((q - 1) / 2)) f ((q - 1) / 2) = siftUp st.free m m := by
          rw [← hsift, siftUp, if_pos ⟨hq0, hlt⟩]
        refine ⟨(q - 1) / 2, by omega, f, _, _, _, swp l' q ((q - 1) / 2), rest, rfl, ?_, ?_, by omega, by rw [swp_len]; omega, by rw [swp_len, hlm], hs, by omega, ?_, ?_, fun x hx hxj => ?_, fun hall => ?_⟩
        · simp only [qC, qD, qE, qF, Tr.get_nil, ne_eq, not_false_eq_true, Nat.reduceEqDiff, g0]
        · simp only [qC, qD, qE, qF, Tr.get_nil, ne_eq, not_false_eq_true, Nat.reduceEqDiff]
        · rw [qF _ _ _ _ (Ne.symm hji), qF _ _ _ _ (Ne.symm hji)]; exact hi'
        · rw [qE]; rfl
        · rw [qF _ _ _ _ hxj, qF _ _ _ _ hxj]; exact hfr x hx hxj
        · exfalso
          simp only [all_relogL, js, ble_old hj, List.all_nil, Bool.and_false, Bool.false_and, Bool.false_eq_true] at hall
      · repeat (first | with_reducible (first | refine n_on ?_ | refine n_seq ?_ | refine s_else ?_ | refine n_t ?_ | refine n_gt ?_ | refine d_t ?_ | refine n_nil ?_ | refine d_nil ?_ | refine n_block ?_ | refine n_skip ?_ | refine n_bon ?_ | refine n_bback ?_ | refine n_back ?_ | refine n_out ?_ | refine n_bout rfl ?_ | refine n_bfar rfl ?_ | refine n_ret ?_ | refine n_exit ?_ | refine n_label ?_ | refine n_scope ?_ | refine n_son ?_ | refine n_sback ?_) | (with_reducible (first | apply n_region | apply d_region); (simp only [JV, JU, JW, Nat.reduceAdd, Nat.zero_add]; exact rfl)) | (with_reducible (first | apply s_op | apply n_guard | apply n_cond | apply d_guard | apply d_op | apply n_fin | apply n_finb); (simp (maxDischargeDepth := 6) only [sy3.1, zY, qG, qP, qQ, qR, qS, qT, rowAt, ↓jg, ↓ji, Nat.reduceAdd, Nat.reduceEqDiff, ne_eq, jG, Nat.reduceLT, if_true, ite_true, Int.reduceLE, Int.reduceLT, Int.reduceEq, Int.reduceNeg, Int.reduceAdd, Nat.reduceSub, if_false, ite_false, fs_25.1, slA, g0, g2, hi', hj', indexAt, Option.isNone_none, Nat.mul_one, c1, c2, b1, b2, w1, w2, d1, bq, decide_eq_false hlt, kind_pure, kind_load, kind_fresh, kind_other, jg, ji, undef]; first | exact rfl | exact ⟨rfl, rfl, rfl, rfl⟩); try (with_reducible refine calmK_in ?_; decide +kernel)))
        refine hends ?_
        rw [← hsift, siftUp, if_neg (fun h => hlt h.2)]
    · have d0 : decide (0 < Int.ofNat q) = false := decide_eq_false (by simp only [Int.ofNat_eq_natCast]; omega)
      repeat (first | with_reducible (first | refine n_on ?_ | refine n_seq ?_ | refine s_else ?_ | refine n_t ?_ | refine n_gt ?_ | refine d_t ?_ | refine n_nil ?_ | refine d_nil ?_ | refine n_block ?_ | refine n_skip ?_ | refine n_bon ?_ | refine n_bback ?_ | refine n_back ?_ | refine n_out ?_ | refine n_bout rfl ?_ | refine n_bfar rfl ?_ | refine n_ret ?_ | refine n_exit ?_ | refine n_label ?_ | refine n_scope ?_ | refine n_son ?_ | refine n_sback ?_) | (with_reducible (first | apply n_region | apply d_region); (simp only [JV, JU, JW, Nat.reduceAdd, Nat.zero_add]; exact rfl)) | (with_reducible (first | apply s_op | apply n_guard | apply n_cond | apply d_guard | apply d_op | apply n_fin | apply n_finb); (simp (maxDischargeDepth := 6) only [sy3.1, zY, qG, qP, qQ, qR, qS, qT, rowAt, ↓jg, ↓ji, Nat.reduceAdd, Nat.reduceEqDiff, ne_eq, jG, Nat.reduceLT, if_true, ite_true, Int.reduceLE, Int.reduceLT, Int.reduceEq, Int.reduceNeg, Int.reduceAdd, Nat.reduceSub, if_false, ite_false, fs_25.1, slA, g0, g2, hi', hj', d0, kind_pure, kind_load, kind_fresh, kind_other, jg, ji, undef]; first | exact rfl | exact ⟨rfl, rfl, rfl, rfl⟩); try (with_reducible refine calmK_in ?_; decide +kernel)))
      refine hends ?_
      rw [← hsift]
      cases f with
      | zero => rfl
      | succ f => rw [siftUp, if_neg (fun h => hq0 h.1)]
  · refine ⟨m, o, nx + 7, [], st.free, rest0, rfl, ?_, ?_, Nat.le_refl _, by omega, hm, rfl, by omega, by rw [hr, hm], hrow, fun _ _ _ => rfl, fun _ => rfl⟩ <;> simp (maxDischargeDepth := 6) only [sy3.1, zY, qG, qP, qQ, qR, qS, qT, rowAt, ↓jg, ↓ji, Nat.reduceAdd, Nat.reduceEqDiff, ne_eq, jG, Nat.reduceLT, if_true, ite_true, Int.reduceLE, Int.reduceLT, Int.reduceEq, Int.reduceNeg, Int.reduceAdd, Nat.reduceSub, if_false, ite_false, fs_25.1]
end
end Go.Proofs.Yticeabhilkceiaa
