/- The document's pool, on the abstract machine: what only looks. -/
import Derived.Test.YticeabhilkceiaaPmGive
import Derived.Test.YticeabhilkceiaaPlayPlain
namespace Go.Proofs.Yticeabhilkceiaa
open Go.RowKit
set_option linter.unusedSimpArgs false
set_option linter.unusedVariables false
set_option maxRecDepth 100000

def ixN : Option Nat → Int
  | some i => Int.ofNat i
  | none => -1
/-- the document's pool, as a value -/
abbrev rpV (bd : Int) (a b : Option Nat) (ids sizes : List Int) : Value := .agg #[.int .i64 bd, .slice (slA a) ids.length 0, .slice (slA b) sizes.length 0]
abbrev rpC (bd : Int) (a b : Option Nat) (ids sizes : List Int) : List Value := [.int .i64 bd, .slice (slA a) ids.length 0, .slice (slA b) sizes.length 0]
theorem got_eq {α : Type} {r : Option α} {a : α} (h : r = some a) : Got r fun x => x = a := ⟨a, h, rfl⟩
theorem ints_mid {o : Tr AObj} {nx : Nat} {a : Option Nat} {d r : List Int} {x : Int} (h : IntsIn o nx a (d ++ x :: r)) : ∃ j rest, a = some j ∧ j < nx ∧ o.get j = some (.row ((d ++ x :: r).map (Value.int .i64) ++ rest) 3 1 true) ∧ ((d ++ x :: r).map (Value.int .i64) ++ rest)[d.length]? = some (.int .i64 x) := by
  obtain ⟨j, rest, h1, h2, h3, h4⟩ := h.at (k := d.length) (by simp)
  exact ⟨j, rest, h1, h2, h3, by rw [h4]; simp [List.getD]⟩
theorem sum_app : ∀ a b : List Int, sumL (a ++ b) = sumL a + sumL b
  | [], b => by simp [sumL]
  | x :: a, b => by simp only [List.cons_append, sumL, sum_app a b]; omega
theorem sum_nn : ∀ {l : List Int}, (∀ s ∈ l, 0 ≤ s) → 0 ≤ sumL l
  | [], _ => Int.le_refl _
  | x :: l, h => by have := h x (by simp); have := sum_nn (l := l) fun s hs => h s (by simp [hs]); simp only [sumL]; omega
section
variable {O : Helps} {n : Nat} {o : Tr AObj} {nx : Nat} {lg : List Nat} {a b : Option Nat} {bd : Int} {ids sizes : List Int}
set_option maxHeartbeats 8000000 in
theorem rused_ok (hO : Clear O) (hb : IntsIn o nx b sizes) (h0 : ∀ s ∈ sizes, 0 ≤ s) (hs : sumL sizes ≤ 1073741824) (hl : sizes.length ≤ 1000000) (hn : sizes.length < n) :
    oCall Try.prog [] O (n + 1) 17 [rpV bd a b ids sizes] ⟨o, nx, lg⟩ = some (.int .i64 (sumL sizes), ⟨o, nx, lg⟩) := by
  refine of_got ?_
  rw [y_fn (rs := [.tmp 2]) (hO _ (by decide)) Try.func17 rfl (by kernel_rfl) rfl rfl]
  repeat (first | with_reducible (first | refine n_on ?_ | refine n_seq ?_ | refine s_else ?_ | refine n_t ?_ | refine n_gt ?_ | refine d_t ?_ | refine n_nil ?_ | refine d_nil ?_ | refine n_block ?_ | refine n_skip ?_ | refine n_bon ?_ | refine n_bback ?_ | refine n_back ?_ | refine n_out ?_ | refine n_bout rfl ?_ | refine n_bfar rfl ?_ | refine n_ret ?_ | refine n_exit ?_ | refine n_label ?_ | refine n_scope ?_ | refine n_son ?_ | refine n_sback ?_) | (with_reducible (first | apply n_region | apply d_region); (simp only [JV, JU, JW, Nat.reduceAdd, Nat.zero_add]; exact rfl)) | (with_reducible (first | apply s_op | apply n_guard | apply n_cond | apply d_guard | apply d_op | apply n_fin | apply n_finb); (simp (maxDischargeDepth := 6) only [sy3.1, zY, qG, qP, qQ, qR, qS, qT, rowAt, ↓jg, ↓ji, Nat.reduceAdd, Nat.reduceEqDiff, ne_eq, jG, Nat.reduceLT, if_true, ite_true, Int.reduceLE, Int.reduceLT, Int.reduceEq, Int.reduceNeg, Int.reduceAdd, Nat.reduceSub, if_false, ite_false, fs_17.1, rpV, kind_pure, kind_load, kind_fresh, kind_other, jg, ji, undef]; first | exact rfl | exact ⟨rfl, rfl, rfl, rfl⟩); try (with_reducible refine calmK_in ?_; decide +kernel)))
  rw [y_loop_eq]
  refine y_loop (I := fun q e H => ∃ d r nx' lg', sizes = d ++ r ∧ r.length = q ∧ H = (⟨o.put nx (some (.row (rpC bd a b ids sizes) 29 0 true)), nx', lg'⟩ : AHeap) ∧ nx + 1 ≤ nx' ∧ lg'.all (fun x => Nat.ble nx x) = true ∧ e.get 1 = some (.pointer (some ⟨nx, 0, none⟩)) ∧ e.get 3 = some (.int .i64 (sumL d)) ∧ e.get 4 = some (.int .i64 (.ofNat d.length))) ?_ sizes.length _ _ _ ⟨[], sizes, _, _, rfl, rfl, rfl, by omega, by rfl, ?_, ?_, ?_⟩ hn
  · rintro q e H ⟨d, r, nx', lg', hdr, hq, rfl, hnx, hlg, g1, g3, g4⟩
    have hdl : d.length + r.length = sizes.length := by rw [hdr, List.length_append]
    cases r with
    | nil =>
      have hlt : decide (d.length < sizes.length) = false := decide_eq_false (by rw [← hdl]; simp)
      rw [List.append_nil] at hdr
      subst hdr
      repeat (first | with_reducible (first | refine n_on ?_ | refine n_seq ?_ | refine s_else ?_ | refine n_t ?_ | refine n_gt ?_ | refine d_t ?_ | refine n_nil ?_ | refine d_nil ?_ | refine n_block ?_ | refine n_skip ?_ | refine n_bon ?_ | refine n_bback ?_ | refine n_back ?_ | refine n_out ?_ | refine n_bout rfl ?_ | refine n_bfar rfl ?_ | refine n_ret ?_ | refine n_exit ?_ | refine n_label ?_ | refine n_scope ?_ | refine n_son ?_ | refine n_sback ?_) | (with_reducible (first | apply n_region | apply d_region); (simp only [JV, JU, JW, Nat.reduceAdd, Nat.zero_add]; exact rfl)) | (with_reducible (first | apply s_op | apply n_guard | apply n_cond | apply d_guard | apply d_op | apply n_fin | apply n_finb); (simp (maxDischargeDepth := 6) only [sy3.1, zY, qG, qP, qQ, qR, qS, qT, rowAt, ↓jg, ↓ji, Nat.reduceAdd, Nat.reduceEqDiff, ne_eq, jG, Nat.reduceLT, if_true, ite_true, Int.reduceLE, Int.reduceLT, Int.reduceEq, Int.reduceNeg, Int.reduceAdd, Nat.reduceSub, if_false, ite_false, fs_17.1, rpC, g1, g3, g4, hlt, kind_pure, kind_load, kind_fresh, kind_other, jg, ji, undef]; first | exact rfl | exact ⟨rfl, rfl, rfl, rfl⟩); try (with_reducible refine calmK_in ?_; decide +kernel)))
      try exact Ja hlg (by rfl)
    | cons x r =>
      simp only [List.length_cons] at hdl hq
      have hlt : decide (d.length < sizes.length) = true := decide_eq_true (by omega)
      rw [hdr] at hb
      obtain ⟨j, rest, hbj, hj, hrow, hc⟩ := ints_mid hb
      rw [← hdr] at hrow hc
      subst hbj
      have l1 : Nat.blt d.length sizes.length = true := by rw [Nat.blt_eq]; omega
      have n0 : decide (Int.ofNat d.length < 0) = false := decide_eq_false (by simp only [Int.ofNat_eq_natCast]; omega)
      have n1 : decide (sizes.length ≤ d.length) = false := decide_eq_false (by omega)
      have hw1 : IntKind.i64.wrap (Int.ofNat d.length + 1) = Int.ofNat (d.length + 1) := by rw [wrap_small _ (by simp only [Int.ofNat_eq_natCast]; omega) (by simp only [Int.ofNat_eq_natCast]; omega)]; rfl
      have hd0 := sum_nn (l := d) fun s hs => h0 s (by rw [hdr]; simp [hs])
      have hx0 := h0 x (by rw [hdr]; simp)
      have hr0 := sum_nn (l := r) fun s hs => h0 s (by rw [hdr]; simp [hs])
      have hsum : sumL sizes = sumL d + (x + sumL r) := by rw [hdr, sum_app]; rfl
      have hw2 : IntKind.i64.wrap (sumL d + x) = sumL d + x := wrap_small _ (by omega) (by omega)
      repeat (first | with_reducible (first | refine n_on ?_ | refine n_seq ?_ | refine s_else ?_ | refine n_t ?_ | refine n_gt ?_ | refine d_t ?_ | refine n_nil ?_ | refine d_nil ?_ | refine n_block ?_ | refine n_skip ?_ | refine n_bon ?_ | refine n_bback ?_ | refine n_back ?_ | refine n_out ?_ | refine n_bout rfl ?_ | refine n_bfar rfl ?_ | refine n_ret ?_ | refine n_exit ?_ | refine n_label ?_ | refine n_scope ?_ | refine n_son ?_ | refine n_sback ?_) | (with_reducible (first | apply n_region | apply d_region); (simp only [JV, JU, JW, Nat.reduceAdd, Nat.zero_add]; exact rfl)) | (with_reducible (first | apply s_op | apply n_guard | apply n_cond | apply d_guard | apply d_op | apply n_fin | apply n_finb); (simp (maxDischargeDepth := 6) only [sy3.1, zY, qG, qP, qQ, qR, qS, qT, rowAt, ↓jg, ↓ji, Nat.reduceAdd, Nat.reduceEqDiff, ne_eq, jG, Nat.reduceLT, if_true, ite_true, Int.reduceLE, Int.reduceLT, Int.reduceEq, Int.reduceNeg, Int.reduceAdd, Nat.reduceSub, if_false, ite_false, fs_17.1, rpC, g1, g3, g4, hlt, slA, hrow, hj, hc, l1, n0, n1, hw1, hw2, indexAt, Option.isNone_none, Nat.mul_one, kind_pure, kind_load, kind_fresh, kind_other, jg, ji, undef]; first | exact rfl | exact ⟨rfl, rfl, rfl, rfl⟩); try (with_reducible refine calmK_in ?_; decide +kernel)))
      refine ⟨r.length, by omega, d ++ [x], r, _, _, by rw [hdr, List.append_assoc]; rfl, rfl, rfl, by omega, hlg, ?_, ?_, ?_⟩ <;> simp only [qC, qD, qE, qF, Tr.get_nil, ne_eq, not_false_eq_true, Nat.reduceEqDiff, g1]
      · rw [sum_app]; simp [sumL]
      · rw [List.length_append]; rfl
  all_goals simp only [qC, qD, qE, qF, Tr.get_nil, ne_eq, not_false_eq_true, Nat.reduceEqDiff]
  · rfl
  · rfl
set_option maxHeartbeats 8000000 in
theorem rplace_ok (hO : Clear O) (ha : IntsIn o nx a ids) (hl : ids.length ≤ 1000000) (hn : ids.length < n) (id : Int) :
    oCall Try.prog [] O (n + 1) 26 [rpV bd a b ids sizes, .int .i64 id] ⟨o, nx, lg⟩ = some (.int .i64 (ixN (placeN ids id 0)), ⟨o, nx, lg⟩) := by
  refine of_got ?_
  rw [y_fn (rs := [.tmp 4]) (hO _ (by decide)) Try.func26 rfl (by kernel_rfl) rfl rfl]
  repeat (first | with_reducible (first | refine n_on ?_ | refine n_seq ?_ | refine s_else ?_ | refine n_t ?_ | refine n_gt ?_ | refine d_t ?_ | refine n_nil ?_ | refine d_nil ?_ | refine n_block ?_ | refine n_skip ?_ | refine n_bon ?_ | refine n_bback ?_ | refine n_back ?_ | refine n_out ?_ | refine n_bout rfl ?_ | refine n_bfar rfl ?_ | refine n_ret ?_ | refine n_exit ?_ | refine n_label ?_ | refine n_scope ?_ | refine n_son ?_ | refine n_sback ?_) | (with_reducible (first | apply n_region | apply d_region); (simp only [JV, JU, JW, Nat.reduceAdd, Nat.zero_add]; exact rfl)) | (with_reducible (first | apply s_op | apply n_guard | apply n_cond | apply d_guard | apply d_op | apply n_fin | apply n_finb); (simp (maxDischargeDepth := 6) only [sy3.1, zY, qG, qP, qQ, qR, qS, qT, rowAt, ↓jg, ↓ji, Nat.reduceAdd, Nat.reduceEqDiff, ne_eq, jG, Nat.reduceLT, if_true, ite_true, Int.reduceLE, Int.reduceLT, Int.reduceEq, Int.reduceNeg, Int.reduceAdd, Nat.reduceSub, if_false, ite_false, fs_26.1, rpV, kind_pure, kind_load, kind_fresh, kind_other, jg, ji, undef]; first | exact rfl | exact ⟨rfl, rfl, rfl, rfl⟩); try (with_reducible refine calmK_in ?_; decide +kernel)))
  rw [y_loop_eq]
  refine y_loop (I := fun q e H => ∃ d r nx' lg', ids = d ++ r ∧ r.length = q ∧ id ∉ d ∧ H = (⟨o.put nx (some (.row (rpC bd a b ids sizes) 29 0 true)), nx', lg'⟩ : AHeap) ∧ nx + 1 ≤ nx' ∧ lg'.all (fun x => Nat.ble nx x) = true ∧ e.get 1 = some (.int .i64 id) ∧ e.get 2 = some (.pointer (some ⟨nx, 0, none⟩)) ∧ e.get 5 = some (.int .i64 (.ofNat d.length))) ?_ ids.length _ _ _ ⟨[], ids, _, _, rfl, rfl, by simp, rfl, by omega, by rfl, ?_, ?_, ?_⟩ hn
  · rintro q e H ⟨d, r, nx', lg', hdr, hq, hnd, rfl, hnx, hlg, g1, g2, g5⟩
    have hdl : d.length + r.length = ids.length := by rw [hdr, List.length_append]
    have hpl : placeN ids id 0 = placeN r id d.length := by rw [hdr, place_app _ _ _ _ hnd, Nat.zero_add]
    cases r with
    | nil =>
      have hlt : decide (d.length < ids.length) = false := decide_eq_false (by rw [← hdl]; simp)
      rw [hpl]
      repeat (first | with_reducible (first | refine n_on ?_ | refine n_seq ?_ | refine s_else ?_ | refine n_t ?_ | refine n_gt ?_ | refine d_t ?_ | refine n_nil ?_ | refine d_nil ?_ | refine n_block ?_ | refine n_skip ?_ | refine n_bon ?_ | refine n_bback ?_ | refine n_back ?_ | refine n_out ?_ | refine n_bout rfl ?_ | refine n_bfar rfl ?_ | refine n_ret ?_ | refine n_exit ?_ | refine n_label ?_ | refine n_scope ?_ | refine n_son ?_ | refine n_sback ?_) | (with_reducible (first | apply n_region | apply d_region); (simp only [JV, JU, JW, Nat.reduceAdd, Nat.zero_add]; exact rfl)) | (with_reducible (first | apply s_op | apply n_guard | apply n_cond | apply d_guard | apply d_op | apply n_fin | apply n_finb); (simp (maxDischargeDepth := 6) only [sy3.1, zY, qG, qP, qQ, qR, qS, qT, rowAt, ↓jg, ↓ji, Nat.reduceAdd, Nat.reduceEqDiff, ne_eq, jG, Nat.reduceLT, if_true, ite_true, Int.reduceLE, Int.reduceLT, Int.reduceEq, Int.reduceNeg, Int.reduceAdd, Nat.reduceSub, if_false, ite_false, fs_26.1, rpC, g1, g2, g5, hlt, kind_pure, kind_load, kind_fresh, kind_other, jg, ji, undef]; first | exact rfl | exact ⟨rfl, rfl, rfl, rfl⟩); try (with_reducible refine calmK_in ?_; decide +kernel)))
      try exact Ja hlg (by rfl)
    | cons x r =>
      simp only [List.length_cons] at hdl hq
      have hlt : decide (d.length < ids.length) = true := decide_eq_true (by omega)
      rw [hdr] at ha
      obtain ⟨j, rest, hbj, hj, hrow, hc⟩ := ints_mid ha
      rw [← hdr] at hrow hc
      subst hbj
      have l1 : Nat.blt d.length ids.length = true := by rw [Nat.blt_eq]; omega
      have n0 : decide (Int.ofNat d.length < 0) = false := decide_eq_false (by simp only [Int.ofNat_eq_natCast]; omega)
      have n1 : decide (ids.length ≤ d.length) = false := decide_eq_false (by omega)
      have hw1 : IntKind.i64.wrap (Int.ofNat d.length + 1) = Int.ofNat (d.length + 1) := by rw [wrap_small _ (by simp only [Int.ofNat_eq_natCast]; omega) (by simp only [Int.ofNat_eq_natCast]; omega)]; rfl
      by_cases hx : x = id
      · have e1 : placeN ids id 0 = some d.length := by rw [hpl]; simp only [placeN]; rw [if_pos hx]
        rw [e1]
        repeat (first | with_reducible (first | refine n_on ?_ | refine n_seq ?_ | refine s_else ?_ | refine n_t ?_ | refine n_gt ?_ | refine d_t ?_ | refine n_nil ?_ | refine d_nil ?_ | refine n_block ?_ | refine n_skip ?_ | refine n_bon ?_ | refine n_bback ?_ | refine n_back ?_ | refine n_out ?_ | refine n_bout rfl ?_ | refine n_bfar rfl ?_ | refine n_ret ?_ | refine n_exit ?_ | refine n_label ?_ | refine n_scope ?_ | refine n_son ?_ | refine n_sback ?_) | (with_reducible (first | apply n_region | apply d_region); (simp only [JV, JU, JW, Nat.reduceAdd, Nat.zero_add]; exact rfl)) | (with_reducible (first | apply s_op | apply n_guard | apply n_cond | apply d_guard | apply d_op | apply n_fin | apply n_finb); (simp (maxDischargeDepth := 6) only [sy3.1, zY, qG, qP, qQ, qR, qS, qT, rowAt, ↓jg, ↓ji, Nat.reduceAdd, Nat.reduceEqDiff, ne_eq, jG, Nat.reduceLT, if_true, ite_true, Int.reduceLE, Int.reduceLT, Int.reduceEq, Int.reduceNeg, Int.reduceAdd, Nat.reduceSub, if_false, ite_false, fs_26.1, rpC, g1, g2, g5, hlt, slA, hrow, hj, hc, l1, n0, n1, hw1, decide_eq_true hx, indexAt, Option.isNone_none, Nat.mul_one, kind_pure, kind_load, kind_fresh, kind_other, jg, ji, undef]; first | exact rfl | exact ⟨rfl, rfl, rfl, rfl⟩); try (with_reducible refine calmK_in ?_; decide +kernel)))
        try exact Ja hlg (by rfl)
      · repeat (first | with_reducible (first | refine n_on ?_ | refine n_seq ?_ | refine s_else ?_ | refine n_t ?_ | refine n_gt ?_ | refine d_t ?_ | refine n_nil ?_ | refine d_nil ?_ | refine n_block ?_ | refine n_skip ?_ | refine n_bon ?_ | refine n_bback ?_ | refine n_back ?_ | refine n_out ?_ | refine n_bout rfl ?_ | refine n_bfar rfl ?_ | refine n_ret ?_ | refine n_exit ?_ | refine n_label ?_ | refine n_scope ?_ | refine n_son ?_ | refine n_sback ?_) | (with_reducible (first | apply n_region | apply d_region); (simp only [JV, JU, JW, Nat.reduceAdd, Nat.zero_add]; exact rfl)) | (with_reducible (first | apply s_op | apply n_guard | apply n_cond | apply d_guard | apply d_op | apply n_fin | apply n_finb); (simp (maxDischargeDepth := 6) only [sy3.1, zY, qG, qP, qQ, qR, qS, qT, rowAt, ↓jg, ↓ji, Nat.reduceAdd, Nat.reduceEqDiff, ne_eq, jG, Nat.reduceLT, if_true, ite_true, Int.reduceLE, Int.reduceLT, Int.reduceEq, Int.reduceNeg, Int.reduceAdd, Nat.reduceSub, if_false, ite_false, fs_26.1, rpC, g1, g2, g5, hlt, slA, hrow, hj, hc, l1, n0, n1, hw1, decide_eq_false hx, indexAt, Option.isNone_none, Nat.mul_one, kind_pure, kind_load, kind_fresh, kind_other, jg, ji, undef]; first | exact rfl | exact ⟨rfl, rfl, rfl, rfl⟩); try (with_reducible refine calmK_in ?_; decide +kernel)))
        refine ⟨r.length, by omega, d ++ [x], r, _, _, by rw [hdr, List.append_assoc]; rfl, rfl, ?_, rfl, by omega, hlg, ?_, ?_, ?_⟩
        · simp only [List.mem_append, List.mem_singleton]; exact fun h => h.elim hnd fun e => hx e.symm
        · simp only [qC, qD, qE, qF, Tr.get_nil, ne_eq, not_false_eq_true, Nat.reduceEqDiff, g1]
        · simp only [qC, qD, qE, qF, Tr.get_nil, ne_eq, not_false_eq_true, Nat.reduceEqDiff, g2]
        · simp only [qC, qD, qE, qF, Tr.get_nil, ne_eq, not_false_eq_true, Nat.reduceEqDiff]; rw [List.length_append]; rfl
  all_goals simp only [qC, qD, qE, qF, Tr.get_nil, ne_eq, not_false_eq_true, Nat.reduceEqDiff]
  · rfl
  · rfl
set_option maxHeartbeats 8000000 in
theorem same_ok (hO : Clear O) {xs : List Int} (ha : IntsIn o nx a xs) (hb : IntsIn o nx b xs) (hl : xs.length ≤ 1000000) (hn : xs.length < n) :
    oCall Try.prog [] O (n + 1) 19 [.slice (slA a) xs.length 0, .slice (slA b) xs.length 0] ⟨o, nx, lg⟩ = some (.bool true, ⟨o, nx, lg⟩) := by
  refine of_got ?_
  have e0 : decide (xs.length = xs.length) = true := decide_eq_true rfl
  rw [y_fn (rs := [.tmp 4]) (hO _ (by decide)) Try.func19 rfl (by kernel_rfl) rfl rfl]
  repeat (first | with_reducible (first | refine n_on ?_ | refine n_seq ?_ | refine s_else ?_ | refine n_t ?_ | refine n_gt ?_ | refine d_t ?_ | refine n_nil ?_ | refine d_nil ?_ | refine n_block ?_ | refine n_skip ?_ | refine n_bon ?_ | refine n_bback ?_ | refine n_back ?_ | refine n_out ?_ | refine n_bout rfl ?_ | refine n_bfar rfl ?_ | refine n_ret ?_ | refine n_exit ?_ | refine n_label ?_ | refine n_scope ?_ | refine n_son ?_ | refine n_sback ?_) | (with_reducible (first | apply n_region | apply d_region); (simp only [JV, JU, JW, Nat.reduceAdd, Nat.zero_add]; exact rfl)) | (with_reducible (first | apply s_op | apply n_guard | apply n_cond | apply d_guard | apply d_op | apply n_fin | apply n_finb); (simp (maxDischargeDepth := 6) only [sy3.1, zY, qG, qP, qQ, qR, qS, qT, rowAt, ↓jg, ↓ji, Nat.reduceAdd, Nat.reduceEqDiff, ne_eq, jG, Nat.reduceLT, if_true, ite_true, Int.reduceLE, Int.reduceLT, Int.reduceEq, Int.reduceNeg, Int.reduceAdd, Nat.reduceSub, if_false, ite_false, fs_19.1, e0, kind_pure, kind_load, kind_fresh, kind_other, jg, ji, undef]; first | exact rfl | exact ⟨rfl, rfl, rfl, rfl⟩); try (with_reducible refine calmK_in ?_; decide +kernel)))
  rw [y_loop_eq]
  refine y_loop (I := fun q e H => ∃ d r nx' lg', xs = d ++ r ∧ r.length = q ∧ H = (⟨o, nx', lg'⟩ : AHeap) ∧ nx ≤ nx' ∧ lg'.all (fun x => Nat.ble nx x) = true ∧ e.get 0 = some (.slice (slA a) xs.length 0) ∧ e.get 1 = some (.slice (slA b) xs.length 0) ∧ e.get 5 = some (.int .i64 (.ofNat d.length))) ?_ xs.length _ _ _ ⟨[], xs, _, _, rfl, rfl, rfl, by omega, by rfl, ?_, ?_, ?_⟩ hn
  · rintro q e H ⟨d, r, nx', lg', hdr, hq, rfl, hnx, hlg, g0, g1, g5⟩
    have hdl : d.length + r.length = xs.length := by rw [hdr, List.length_append]
    cases r with
    | nil =>
      have hlt : decide (d.length < xs.length) = false := decide_eq_false (by rw [← hdl]; simp)
      repeat (first | with_reducible (first | refine n_on ?_ | refine n_seq ?_ | refine s_else ?_ | refine n_t ?_ | refine n_gt ?_ | refine d_t ?_ | refine n_nil ?_ | refine d_nil ?_ | refine n_block ?_ | refine n_skip ?_ | refine n_bon ?_ | refine n_bback ?_ | refine n_back ?_ | refine n_out ?_ | refine n_bout rfl ?_ | refine n_bfar rfl ?_ | refine n_ret ?_ | refine n_exit ?_ | refine n_label ?_ | refine n_scope ?_ | refine n_son ?_ | refine n_sback ?_) | (with_reducible (first | apply n_region | apply d_region); (simp only [JV, JU, JW, Nat.reduceAdd, Nat.zero_add]; exact rfl)) | (with_reducible (first | apply s_op | apply n_guard | apply n_cond | apply d_guard | apply d_op | apply n_fin | apply n_finb); (simp (maxDischargeDepth := 6) only [sy3.1, zY, qG, qP, qQ, qR, qS, qT, rowAt, ↓jg, ↓ji, Nat.reduceAdd, Nat.reduceEqDiff, ne_eq, jG, Nat.reduceLT, if_true, ite_true, Int.reduceLE, Int.reduceLT, Int.reduceEq, Int.reduceNeg, Int.reduceAdd, Nat.reduceSub, if_false, ite_false, fs_19.1, g0, g1, g5, hlt, kind_pure, kind_load, kind_fresh, kind_other, jg, ji, undef]; first | exact rfl | exact ⟨rfl, rfl, rfl, rfl⟩); try (with_reducible refine calmK_in ?_; decide +kernel)))
      try exact Ja hlg (by rfl)
    | cons x r =>
      simp only [List.length_cons] at hdl hq
      have hlt : decide (d.length < xs.length) = true := decide_eq_true (by omega)
      rw [hdr] at ha hb
      obtain ⟨j, rest, haj, hj, hrow, hc⟩ := ints_mid ha
      obtain ⟨j2, rest2, hbj, hj2, hrow2, hc2⟩ := ints_mid hb
      rw [← hdr] at hrow hc hrow2 hc2
      have hsl : slA a = some ⟨j, 0, none⟩ := by rw [haj]; rfl
      have hsl2 : slA b = some ⟨j2, 0, none⟩ := by rw [hbj]; rfl
      have l1 : Nat.blt d.length xs.length = true := by rw [Nat.blt_eq]; omega
      have n0 : decide (Int.ofNat d.length < 0) = false := decide_eq_false (by simp only [Int.ofNat_eq_natCast]; omega)
      have n1 : decide (xs.length ≤ d.length) = false := decide_eq_false (by omega)
      have hw1 : IntKind.i64.wrap (Int.ofNat d.length + 1) = Int.ofNat (d.length + 1) := by rw [wrap_small _ (by simp only [Int.ofNat_eq_natCast]; omega) (by simp only [Int.ofNat_eq_natCast]; omega)]; rfl
      have ex : decide (x = x) = true := decide_eq_true rfl
      repeat (first | with_reducible (first | refine n_on ?_ | refine n_seq ?_ | refine s_else ?_ | refine n_t ?_ | refine n_gt ?_ | refine d_t ?_ | refine n_nil ?_ | refine d_nil ?_ | refine n_block ?_ | refine n_skip ?_ | refine n_bon ?_ | refine n_bback ?_ | refine n_back ?_ | refine n_out ?_ | refine n_bout rfl ?_ | refine n_bfar rfl ?_ | refine n_ret ?_ | refine n_exit ?_ | refine n_label ?_ | refine n_scope ?_ | refine n_son ?_ | refine n_sback ?_) | (with_reducible (first | apply n_region | apply d_region); (simp only [JV, JU, JW, Nat.reduceAdd, Nat.zero_add]; exact rfl)) | (with_reducible (first | apply s_op | apply n_guard | apply n_cond | apply d_guard | apply d_op | apply n_fin | apply n_finb); (simp (maxDischargeDepth := 6) only [sy3.1, zY, qG, qP, qQ, qR, qS, qT, rowAt, ↓jg, ↓ji, Nat.reduceAdd, Nat.reduceEqDiff, ne_eq, jG, Nat.reduceLT, if_true, ite_true, Int.reduceLE, Int.reduceLT, Int.reduceEq, Int.reduceNeg, Int.reduceAdd, Nat.reduceSub, if_false, ite_false, fs_19.1, g0, g1, g5, hlt, hsl, hsl2, hrow, hj, hc, hrow2, hj2, hc2, l1, n0, n1, hw1, ex, indexAt, Option.isNone_none, Nat.mul_one, kind_pure, kind_load, kind_fresh, kind_other, jg, ji, undef]; first | exact rfl | exact ⟨rfl, rfl, rfl, rfl⟩); try (with_reducible refine calmK_in ?_; decide +kernel)))
      refine ⟨r.length, by omega, d ++ [x], r, _, _, by rw [hdr, List.append_assoc]; rfl, rfl, rfl, by omega, hlg, ?_, ?_, ?_⟩
      · simp only [qC, qD, qE, qF, Tr.get_nil, ne_eq, not_false_eq_true, Nat.reduceEqDiff, g0]
      · simp only [qC, qD, qE, qF, Tr.get_nil, ne_eq, not_false_eq_true, Nat.reduceEqDiff, g1]
      · simp only [qC, qD, qE, qF, Tr.get_nil, ne_eq, not_false_eq_true, Nat.reduceEqDiff]; rw [List.length_append]; rfl
  all_goals simp only [qC, qD, qE, qF, Tr.get_nil, ne_eq, not_false_eq_true, Nat.reduceEqDiff]
  · rfl
  · rfl
  · rfl
end
end Go.Proofs.Yticeabhilkceiaa
