/- Pool: least, on the abstract machine. -/
import Derived.Test.YthnlkahgmbadoaaPmUp0
namespace Go.Proofs.Ythnlkahgmbadoaa
open Go.RowKit
set_option linter.unusedSimpArgs false
set_option linter.unusedVariables false
set_option maxRecDepth 100000

section
variable {O : Helps} {n : Nat} {o : Tr AObj} {nx : Nat} {lg : List Nat} {i : Nat} {a b : Option Nat} {st : PS}
set_option maxHeartbeats 4000000 in
theorem plower_ok (hO : Clear O) {c0 c1 c2 c3 c4 : Value} {rest : List Value} {l : List Int} {p1 p2 j m x k e0 e1 e2 z0 z1 z2 : Nat} (hr : o.get i = some (.row [c0, c1, c2, c3, c4, .slice (some ⟨j, 0, none⟩) m 0] e0 z0 true)) (hj : o.get j = some (.row (l.map (Value.int .i64) ++ rest) 3 1 true)) (hm : l.length = m)
    (h1 : o.get p1 = some (.row [.pointer (some ⟨i, 0, none⟩)] e1 z1 true)) (h2 : o.get p2 = some (.row [.int .i64 (.ofNat m)] e2 z2 true)) (hx : x < m ∨ m ≤ k) :
    oCall Try.prog [] O (n + 1) 60 [.int .i64 (.ofNat x), .int .i64 (.ofNat k), .pointer (some ⟨p2, 0, none⟩), .pointer (some ⟨p1, 0, none⟩)] ⟨o, nx, lg⟩ = some (.int .i64 (.ofNat (lower l x k)), ⟨o, nx, lg⟩) := by
  refine of_got ?_
  rw [y_fn (rs := [.tmp 6]) (hO _ (by decide)) Try.func60 rfl (by kernel_rfl) rfl rfl]
  by_cases hk : k < m
  · have hxm : x < m := by omega
    have c1 := ints_at l rest k (by omega)
    have c2 := ints_at l rest x (by omega)
    have b1 : Nat.blt k m = true := by rw [Nat.blt_eq]; omega
    have b2 : Nat.blt x m = true := by rw [Nat.blt_eq]; omega
    have d1 : decide (Int.ofNat k < Int.ofNat m) = true := decide_eq_true (by simp only [Int.ofNat_eq_natCast]; omega)
    by_cases hlt : l.getD k 0 < l.getD x 0
    · have hL : lower l x k = k := by unfold lower; rw [hm, if_pos ⟨hk, hlt⟩]
      rw [hL]
      repeat (first | with_reducible (first | refine n_on ?_ | refine n_seq ?_ | refine s_else ?_ | refine n_t ?_ | refine n_gt ?_ | refine d_t ?_ | refine n_nil ?_ | refine d_nil ?_ | refine n_block ?_ | refine n_skip ?_ | refine n_bon ?_ | refine n_bback ?_ | refine n_back ?_ | refine n_out ?_ | refine n_bout rfl ?_ | refine n_bfar rfl ?_ | refine n_ret ?_ | refine n_exit ?_ | refine n_label ?_ | refine n_scope ?_ | refine n_son ?_ | refine n_sback ?_) | (with_reducible (first | apply n_region | apply d_region); (simp only [JV, JU, JW, Nat.reduceAdd, Nat.zero_add]; exact rfl)) | (with_reducible (first | apply s_op | apply n_guard | apply n_cond | apply d_guard | apply d_op | apply n_fin | apply n_finb); (simp (maxDischargeDepth := 6) only [sy3.1, zY, qG, qP, qQ, qR, qS, qT, rowAt, ↓jg, ↓ji, Nat.reduceAdd, Nat.reduceEqDiff, ne_eq, jG, Nat.reduceLT, if_true, ite_true, Int.reduceLE, Int.reduceLT, Int.reduceEq, Int.reduceNeg, Int.reduceAdd, Nat.reduceSub, if_false, ite_false, fs_60.1, hr, hj, h1, h2, indexAt, Option.isNone_none, Nat.mul_one, c1, c2, b1, b2, decide_eq_true hk, decide_eq_true hlt, kind_pure, kind_load, kind_fresh, kind_other, jg, ji, undef]; first | exact rfl | exact ⟨rfl, rfl, rfl, rfl⟩); try (with_reducible refine calmK_in ?_; decide +kernel)))
      try exact Ja (by rfl) (by rfl)
    · have hL : lower l x k = x := by unfold lower; rw [if_neg (fun h => hlt h.2)]
      rw [hL]
      repeat (first | with_reducible (first | refine n_on ?_ | refine n_seq ?_ | refine s_else ?_ | refine n_t ?_ | refine n_gt ?_ | refine d_t ?_ | refine n_nil ?_ | refine d_nil ?_ | refine n_block ?_ | refine n_skip ?_ | refine n_bon ?_ | refine n_bback ?_ | refine n_back ?_ | refine n_out ?_ | refine n_bout rfl ?_ | refine n_bfar rfl ?_ | refine n_ret ?_ | refine n_exit ?_ | refine n_label ?_ | refine n_scope ?_ | refine n_son ?_ | refine n_sback ?_) | (with_reducible (first | apply n_region | apply d_region); (simp only [JV, JU, JW, Nat.reduceAdd, Nat.zero_add]; exact rfl)) | (with_reducible (first | apply s_op | apply n_guard | apply n_cond | apply d_guard | apply d_op | apply n_fin | apply n_finb); (simp (maxDischargeDepth := 6) only [sy3.1, zY, qG, qP, qQ, qR, qS, qT, rowAt, ↓jg, ↓ji, Nat.reduceAdd, Nat.reduceEqDiff, ne_eq, jG, Nat.reduceLT, if_true, ite_true, Int.reduceLE, Int.reduceLT, Int.reduceEq, Int.reduceNeg, Int.reduceAdd, Nat.reduceSub, if_false, ite_false, fs_60.1, hr, hj, h1, h2, indexAt, Option.isNone_none, Nat.mul_one, c1, c2, b1, b2, decide_eq_true hk, decide_eq_false hlt, kind_pure, kind_load, kind_fresh, kind_other, jg, ji, undef]; first | exact rfl | exact ⟨rfl, rfl, rfl, rfl⟩); try (with_reducible refine calmK_in ?_; decide +kernel)))
      try exact Ja (by rfl) (by rfl)
  · have hL : lower l x k = x := by unfold lower; rw [hm, if_neg (fun h => hk h.1)]
    rw [hL]
    repeat (first | with_reducible (first | refine n_on ?_ | refine n_seq ?_ | refine s_else ?_ | refine n_t ?_ | refine n_gt ?_ | refine d_t ?_ | refine n_nil ?_ | refine d_nil ?_ | refine n_block ?_ | refine n_skip ?_ | refine n_bon ?_ | refine n_bback ?_ | refine n_back ?_ | refine n_out ?_ | refine n_bout rfl ?_ | refine n_bfar rfl ?_ | refine n_ret ?_ | refine n_exit ?_ | refine n_label ?_ | refine n_scope ?_ | refine n_son ?_ | refine n_sback ?_) | (with_reducible (first | apply n_region | apply d_region); (simp only [JV, JU, JW, Nat.reduceAdd, Nat.zero_add]; exact rfl)) | (with_reducible (first | apply s_op | apply n_guard | apply n_cond | apply d_guard | apply d_op | apply n_fin | apply n_finb); (simp (maxDischargeDepth := 6) only [sy3.1, zY, qG, qP, qQ, qR, qS, qT, rowAt, ↓jg, ↓ji, Nat.reduceAdd, Nat.reduceEqDiff, ne_eq, jG, Nat.reduceLT, if_true, ite_true, Int.reduceLE, Int.reduceLT, Int.reduceEq, Int.reduceNeg, Int.reduceAdd, Nat.reduceSub, if_false, ite_false, fs_60.1, hr, hj, h1, h2, decide_eq_false hk, kind_pure, kind_load, kind_fresh, kind_other, jg, ji, undef]; first | exact rfl | exact ⟨rfl, rfl, rfl, rfl⟩); try (with_reducible refine calmK_in ?_; decide +kernel)))
    try exact Ja (by rfl) (by rfl)
theorem lower_lt {l : List Int} {x k m : Nat} (hm : l.length = m) (hx : x < m) : lower l x k < m := by
  rcases lower_cases l x k with h | ⟨h, h2⟩ <;> omega
theorem wrap_nat (k : Nat) (h : k < 9223372036854775808) : IntKind.i64.wrap (Int.ofNat k) = Int.ofNat k := wrap_small _ (by simp only [Int.ofNat_eq_natCast]; omega) (by simp only [Int.ofNat_eq_natCast]; omega)
set_option maxHeartbeats 16000000 in
theorem pleast_ok (hO : Clear O) (h : PoolIn o nx i a b st) {m : Nat} (hm : st.free.length = m + 1) (hl : m < 1000000) (hn : m < n) :
    Got (oCall Try.prog [] O (n + 2) 56 [.pointer (some ⟨i, 0, none⟩)] ⟨o, nx, lg⟩) fun r => ∃ o' nx' lg', r = (.int .i64 (st.free.getD 0 0), ⟨o', nx', lg'⟩) ∧ nx ≤ nx' ∧ PoolIn o' nx' i a b { st with free := heapPop st.free } ∧ (∀ x, x < nx → x ≠ i → b ≠ some x → o'.get x = o.get x) ∧ ∀ y, y ∈ lg → y ∈ lg' := by
  obtain ⟨z, cf, hr, hcf⟩ := h.row
  obtain ⟨j, rest0, rfl, hj, hrow⟩ : ∃ j rest, b = some j ∧ j < nx ∧ o.get j = some (.row (st.free.map (Value.int .i64) ++ rest) 3 1 true) := by
    rcases h.fr with ⟨_, e⟩ | hf
    · rw [e] at hm; simp at hm
    · exact hf
  have hji : j ≠ i := fun e => h.neb (by rw [e])
  obtain rfl : cf = 0 := hcf.zero (fun e => by rw [e] at hm; simp at hm)
  have hij := Ne.symm hji
  have hi := h.lt
  rw [y_fn (rs := [.tmp 2]) (hO _ (by decide)) Try.func56 rfl (by kernel_rfl) rfl rfl]
  have hw0 : IntKind.i64.wrap (Int.ofNat (m + 1) - 1) = Int.ofNat m := by
    rw [wrap_pred1 _ (by omega) (by omega)]; rfl
  have ca := ints_at st.free rest0 0 (by omega)
  have cb := ints_at st.free rest0 m (by omega)
  have b0 : Nat.blt 0 (m + 1) = true := by rw [Nat.blt_eq]; omega
  have b1 : Nat.blt m (m + 1) = true := by rw [Nat.blt_eq]; omega
  have t1 := fun x => ints_set st.free rest0 0 x (by omega)
  have s1 : (0 < (st.free.map (Value.int .i64) ++ rest0).length) = True := eq_true (by simp; omega)
  have hsl : ∀ (o : Tr AObj) (nx : Nat) (lg : List Nat), o.get j = some (.row ((st.free.set 0 (st.free.getD m 0)).map (Value.int .i64) ++ rest0) 3 1 true) → aSlice Try.prog 75 (.slice (some ⟨j, 0, none⟩) (m + 1) 0) none (some (.int .i64 (.ofNat m))) none ⟨o, nx, lg⟩ = some (.slice (some ⟨j, 0, none⟩) m 0) := fun o nx lg hg => slice_to (H := ⟨o, nx, lg⟩) el_75 hg (by omega)
  rw [hm] at hr
  repeat (first | with_reducible (first | refine n_on ?_ | refine n_seq ?_ | refine s_else ?_ | refine n_t ?_ | refine n_gt ?_ | refine d_t ?_ | refine n_nil ?_ | refine d_nil ?_ | refine n_block ?_ | refine n_skip ?_ | refine n_bon ?_ | refine n_bback ?_ | refine n_back ?_ | refine n_out ?_ | refine n_bout rfl ?_ | refine n_bfar rfl ?_ | refine n_ret ?_ | refine n_exit ?_ | refine n_label ?_ | refine n_scope ?_ | refine n_son ?_ | refine n_sback ?_) | (with_reducible (first | apply n_region | apply d_region); (simp only [JV, JU, JW, Nat.reduceAdd, Nat.zero_add]; exact rfl)) | (with_reducible (first | apply s_op | apply n_guard | apply n_cond | apply d_guard | apply d_op | apply n_fin | apply n_finb); (simp (maxDischargeDepth := 6) only [sy3.1, zY, qG, qP, qQ, qR, qS, qT, rowAt, ↓jg, ↓ji, Nat.reduceAdd, Nat.reduceEqDiff, ne_eq, jG, Nat.reduceLT, if_true, ite_true, Int.reduceLE, Int.reduceLT, Int.reduceEq, Int.reduceNeg, Int.reduceAdd, Nat.reduceSub, if_false, ite_false, fs_56.1, slA, hr, hrow, hw0, ca, cb, b0, b1, t1, s1, hsl, indexAt, Option.isNone_none, Nat.mul_one, Nat.zero_mul, hi, hj, hij, hji, List.map_toArray, kind_pure, kind_load, kind_fresh, kind_other, jg, ji, undef]; first | exact rfl | exact ⟨rfl, rfl, rfl, rfl⟩); try (with_reducible refine calmK_in ?_; decide +kernel)))
  rw [y_loop_eq]
  have hlen0 : ((st.free.set 0 (st.free.getD m 0)).take m).length = m := by simp; omega
  have hpop : heapPop st.free = siftDown ((st.free.set 0 (st.free.getD m 0)).take m) m 0 := by unfold heapPop; rw [show st.free.length - 1 = m from by omega]
  have hsplit : (st.free.set 0 (st.free.getD m 0)).map (Value.int .i64) ++ rest0 = ((st.free.set 0 (st.free.getD m 0)).take m).map (Value.int .i64) ++ (((st.free.set 0 (st.free.getD m 0)).drop m).map (Value.int .i64) ++ rest0) := by
    rw [← List.append_assoc, ← List.map_append, List.take_append_drop]
  refine y_loop (I := fun q e H => ∃ x f o' nx' lg' l' rest, H = (⟨o', nx', lg'⟩ : AHeap) ∧ q = m - x ∧ (x < m ∨ (x = 0 ∧ m = 0)) ∧ m - x ≤ f ∧ l'.length = m ∧ siftDown l' f x = heapPop st.free ∧ nx + 43 ≤ nx' ∧ lg'.all (fun x => Nat.ble nx x) = false ∧
    e.get 1 = some (.pointer (some ⟨nx, 0, none⟩)) ∧ e.get 3 = some (.int .i64 (st.free.getD 0 0)) ∧ e.get 4 = some (.pointer (some ⟨nx + 14, 0, none⟩)) ∧ e.get 5 = some (.func (.func 60) #[] #[.pointer (some ⟨nx + 14, 0, none⟩), .pointer (some ⟨nx, 0, none⟩)]) ∧ e.get 6 = some (.int .i64 (.ofNat x)) ∧
    o'.get nx = some (.row [.pointer (some ⟨i, 0, none⟩)] 57 0 true) ∧ o'.get (nx + 14) = some (.row [.int .i64 (.ofNat m)] 3 0 true) ∧
    o'.get i = some (.row [.bool true, .int .i64 st.bound, .int .i64 st.used, .int .i64 st.count, .slice (slA a) st.sizes.length 0, .slice (some ⟨j, 0, none⟩) m 0] 88 z true) ∧
    o'.get j = some (.row (l'.map (Value.int .i64) ++ rest) 3 1 true) ∧ ∀ x, x < nx → x ≠ i → x ≠ j → o'.get x = o.get x) ?_ m _ _ _ ?_ (by omega)
  · rintro q e H ⟨x, f, o', nx', lg', l', rest, rfl, rfl, hx, hf, hlm, hsift, hnx, hlg, g1, g3, g4, g5, g6, r1, r2, hi', hj', hfr⟩
    have low := fun (q : Nat) (lg : List Nat) (x k : Nat) (hx : x < m ∨ m ≤ k) => plower_ok (n := n) (nx := nx' + q) (lg := lg) hO hi' hj' hlm r1 r2 hx
    have w1 : IntKind.i64.wrap (2 * Int.ofNat x) = Int.ofNat (2 * x) := by
      rw [show 2 * Int.ofNat x = Int.ofNat (2 * x) from by simp]; exact wrap_nat _ (by omega)
    have w2 := wrap_next (2 * x) (by omega)
    have w3 : IntKind.i64.wrap (Int.ofNat (2 * x) + 2) = Int.ofNat (2 * x + 2) := by
      rw [show Int.ofNat (2 * x) + 2 = Int.ofNat (2 * x + 2) from by simp]; exact wrap_nat _ (by omega)
    have hk1 : x < m ∨ m ≤ 2 * x + 1 := by omega
    have hk2 : lower l' x (2 * x + 1) < m ∨ m ≤ 2 * x + 2 := by
      rcases hx with h | h
      · exact .inl (lower_lt hlm h)
      · omega
    have L1 := fun q lg => low q lg x (2 * x + 1) hk1
    have L2 := fun q lg => low q lg (lower l' x (2 * x + 1)) (2 * x + 2) hk2
    obtain ⟨k, hk⟩ : ∃ k, lower l' (lower l' x (2 * x + 1)) (2 * x + 2) = k := ⟨_, rfl⟩
    rw [hk] at L2
    by_cases hkx : k = x
    · have d1 : decide (k = x) = true := decide_eq_true hkx
      repeat (first | with_reducible (first | refine n_on ?_ | refine n_seq ?_ | refine s_else ?_ | refine n_t ?_ | refine n_gt ?_ | refine d_t ?_ | refine n_nil ?_ | refine d_nil ?_ | refine n_block ?_ | refine n_skip ?_ | refine n_bon ?_ | refine n_bback ?_ | refine n_back ?_ | refine n_out ?_ | refine n_bout rfl ?_ | refine n_bfar rfl ?_ | refine n_ret ?_ | refine n_exit ?_ | refine n_label ?_ | refine n_scope ?_ | refine n_son ?_ | refine n_sback ?_) | (with_reducible (first | apply n_region | apply d_region); (simp only [JV, JU, JW, Nat.reduceAdd, Nat.zero_add]; exact rfl)) | (with_reducible (first | apply s_op | apply n_guard | apply n_cond | apply d_guard | apply d_op | apply n_fin | apply n_finb); (simp (maxDischargeDepth := 6) only [sy3.1, zY, qG, qP, qQ, qR, qS, qT, rowAt, ↓jg, ↓ji, Nat.reduceAdd, Nat.reduceEqDiff, ne_eq, jG, Nat.reduceLT, if_true, ite_true, Int.reduceLE, Int.reduceLT, Int.reduceEq, Int.reduceNeg, Int.reduceAdd, Nat.reduceSub, if_false, ite_false, fs_56.1, slA, g1, g3, g4, g5, g6, w1, w2, w3, L1, L2, d1, kind_pure, kind_load, kind_fresh, kind_other, jg, ji, undef]; first | exact rfl | exact ⟨rfl, rfl, rfl, rfl⟩); try (with_reducible refine calmK_in ?_; decide +kernel)))
      have hres : heapPop st.free = l' := by
        rw [← hsift]
        cases f with
        | zero => rfl
        | succ f => rw [siftDown, hk, if_pos hkx]
      have hloud := fun nx2 => leave_log (o := o) (o' := o') (nx' := nx2) (lg := lg) (v := .int .i64 (st.free.getD 0 0)) hlg
      obtain ⟨l2, e2, hmo, _⟩ := hloud _
      refine ⟨_, _, _, e2, by omega, ⟨by omega, ⟨z, 0, ?_, .inl rfl, hcf.2⟩, h.sz.keep (by omega) fun x e => hfr x (h.sz.lt e) (fun e2 => h.nea (by rw [e, e2])) (fun e2 => h.neab x e (by rw [e2])), .inr ⟨j, rest, rfl, by omega, ?_⟩, h.nea, h.neb, h.neab⟩, fun x hx hxi hxj => hfr x hx hxi fun e2 => hxj (by rw [e2]), hmo⟩
      · rw [hi']; simp only [hres, hlm, slA, Option.map_some]
      · rw [hj']; simp only [hres]
    · have d1 : decide (k = x) = false := decide_eq_false hkx
      have hkl : x < k ∧ k < m := by
        rcases low_cases l' x with h | ⟨h, h2⟩ | ⟨h, h2⟩ <;> rw [hk] at h <;> omega
      have c1 := ints_at l' rest k (by omega)
      have c2 := ints_at l' rest x (by omega)
      have b1 : Nat.blt k m = true := by rw [Nat.blt_eq]; omega
      have b2 : Nat.blt x m = true := by rw [Nat.blt_eq]; omega
      have t1 := fun y => ints_set l' rest x y (by omega)
      have t2 := fun y => ints_set (l'.set x (l'.getD k 0)) rest k y (by rw [List.length_set]; omega)
      have s1 : (x < (l'.map (Value.int .i64) ++ rest).length) = True := eq_true (by simp; omega)
      have s2 : (k < ((l'.set x (l'.getD k 0)).map (Value.int .i64) ++ rest).length) = True := eq_true (by simp; omega)
      have e1 : nx ≠ j := by omega
      have e2 : nx + 14 ≠ j := by omega
      repeat (first | with_reducible (first | refine n_on ?_ | refine n_seq ?_ | refine s_else ?_ | refine n_t ?_ | refine n_gt ?_ | refine d_t ?_ | refine n_nil ?_ | refine d_nil ?_ | refine n_block ?_ | refine n_skip ?_ | refine n_bon ?_ | refine n_bback ?_ | refine n_back ?_ | refine n_out ?_ | refine n_bout rfl ?_ | refine n_bfar rfl ?_ | refine n_ret ?_ | refine n_exit ?_ | refine n_label ?_ | refine n_scope ?_ | refine n_son ?_ | refine n_sback ?_) | (with_reducible (first | apply n_region | apply d_region); (simp only [JV, JU, JW, Nat.reduceAdd, Nat.zero_add]; exact rfl)) | (with_reducible (first | apply s_op | apply n_guard | apply n_cond | apply d_guard | apply d_op | apply n_fin | apply n_finb); (simp (maxDischargeDepth := 6) only [sy3.1, zY, qG, qP, qQ, qR, qS, qT, rowAt, ↓jg, ↓ji, Nat.reduceAdd, Nat.reduceEqDiff, ne_eq, jG, Nat.reduceLT, if_true, ite_true, Int.reduceLE, Int.reduceLT, Int.reduceEq, Int.reduceNeg, Int.reduceAdd, Nat.reduceSub, if_false, ite_false, fs_56.1, slA, g1, g3, g4, g5, g6, w1, w2, w3, L1, L2, d1, r1, r2, hi', hj', hij, c1, c2, b1, b2, t1, t2, s1, s2, indexAt, Option.isNone_none, Nat.mul_one, e1, e2, kind_pure, kind_load, kind_fresh, kind_other, jg, ji, undef]; first | exact rfl | exact ⟨rfl, rfl, rfl, rfl⟩); try (with_reducible refine calmK_in ?_; decide +kernel)))
      have hs : ∃ f', f = f' + 1 ∧ siftDown (swp l' x k) f' k = heapPop st.free := by
        cases f with
        | zero => omega
        | succ f => refine ⟨f, rfl, ?_⟩; rw [← hsift, siftDown, hk, if_neg hkx]
      obtain ⟨f', rfl, hs⟩ := hs
      refine ⟨m - k, by omega, k, f', _, _, _, swp l' x k, rest, rfl, rfl, .inl (by omega), by omega, by rw [swp_len, hlm], hs, by omega, ?_, ?_, ?_, ?_, ?_, ?_, ?_, ?_, ?_, ?_, fun x hx hxi hxj => ?_⟩
      · simp only [all_relogL, js, ble_old hj, List.all_nil, Bool.and_false, Bool.false_and]
      · simp only [qC, qD, qE, qF, Tr.get_nil, ne_eq, not_false_eq_true, Nat.reduceEqDiff, g1]
      · simp only [qC, qD, qE, qF, Tr.get_nil, ne_eq, not_false_eq_true, Nat.reduceEqDiff, g3]
      · simp only [qC, qD, qE, qF, Tr.get_nil, ne_eq, not_false_eq_true, Nat.reduceEqDiff, g4]
      · simp only [qC, qD, qE, qF, Tr.get_nil, ne_eq, not_false_eq_true, Nat.reduceEqDiff, g5]
      · simp only [qC, qD, qE, qF, Tr.get_nil, ne_eq, not_false_eq_true, Nat.reduceEqDiff]
      · simp only [qF _ _ _ _ e1]; exact r1
      · simp only [qF _ _ _ _ e2]; exact r2
      · simp only [qF _ _ _ _ hij]; exact hi'
      · rw [qE]; rfl
      · simp only [qF _ _ _ _ hxj]; exact hfr x hx hxi hxj
  · refine ⟨0, m, _, _, _, (st.free.set 0 (st.free.getD m 0)).take m, ((st.free.set 0 (st.free.getD m 0)).drop m).map (Value.int .i64) ++ rest0, rfl, rfl, by omega, by omega, hlen0, hpop.symm, by omega, ?_, ?_, ?_, ?_, ?_, ?_, ?_, ?_, ?_, ?_, fun x hx hxi hxj => ?_⟩
    · simp only [all_relogL, js, ble_old hj, List.all_nil, Bool.and_false, Bool.false_and]
    · simp only [qC, qD, qE, qF, Tr.get_nil, ne_eq, not_false_eq_true, Nat.reduceEqDiff]
    · simp only [qC, qD, qE, qF, Tr.get_nil, ne_eq, not_false_eq_true, Nat.reduceEqDiff]
    · simp only [qC, qD, qE, qF, Tr.get_nil, ne_eq, not_false_eq_true, Nat.reduceEqDiff]
    · simp only [qC, qD, qE, qF, Tr.get_nil, ne_eq, not_false_eq_true, Nat.reduceEqDiff, List.map_toArray, List.map_cons, List.map_nil, qz, Option.getD_some]
    · simp only [qC, qD, qE, qF, Tr.get_nil, ne_eq, not_false_eq_true, Nat.reduceEqDiff]; rfl
    · have e1 : nx ≠ j := by omega
      have e2 : nx ≠ i := by omega
      simp only [qF _ _ _ _ e1, qF _ _ _ _ e2, jn, qC, qD, qE, qF, Tr.get_nil, ne_eq, not_false_eq_true, Nat.reduceEqDiff]
      simp (maxDischargeDepth := 6) only [sy3.1, zY, qG, qP, qQ, qR, qS, qT, rowAt, ↓jg, ↓ji, Nat.reduceAdd, Nat.reduceEqDiff, ne_eq, jG, Nat.reduceLT, if_true, ite_true, Int.reduceLE, Int.reduceLT, Int.reduceEq, Int.reduceNeg, Int.reduceAdd, Nat.reduceSub, if_false, ite_false, fs_56.1]
    · have e1 : nx + 14 ≠ j := by omega
      have e2 : nx + 14 ≠ i := by omega
      simp only [qF _ _ _ _ e1, qF _ _ _ _ e2, qE]
    · rw [qE]
    · rw [qF _ _ _ _ hji, qE, hsplit]
    · rw [qF _ _ _ _ hxi, qF _ _ _ _ hxj, qF _ _ _ _ (by omega), qF _ _ _ _ (by omega), qF _ _ _ _ (by omega)]
end
end Go.Proofs.Ythnlkahgmbadoaa
