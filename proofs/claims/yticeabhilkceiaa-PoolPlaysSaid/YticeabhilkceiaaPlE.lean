/- The document's pool, on the abstract machine: Take from one that has some. -/
import Derived.Test.YticeabhilkceiaaPlD
namespace Go.Proofs.Yticeabhilkceiaa
open Go.RowKit
set_option linter.unusedSimpArgs false
set_option linter.unusedVariables false
set_option maxRecDepth 100000

theorem loop_cut {P : Program} {call : CallFn} {fuel i : Nat} {c : Code} {env : Tr Value} {H : AHeap} {Q : St → Prop} (I : Tr Value → AHeap → Prop) (h1 : Got (rCode P call fuel (.loop c) env H) fun s => ∃ e h, s = (Way.out i, e, h) ∧ I e h) (h2 : ∀ e h, I e h → Q (.out i, e, h)) : Got (rCode P call fuel (.loop c) env H) Q :=
  h1.mono (by rintro s ⟨e, h, rfl, hi⟩; exact h2 e h hi)
theorem OwnL.nil {o : Tr AObj} {lo : Nat} {a : Option Nat} (h : OwnL o lo a []) : a = none := by
  rcases h with ⟨h, _⟩ | ⟨_, _, _, h, _⟩
  · exact h
  · exact absurd rfl h
theorem OwnL.low {o : Tr AObj} {lo lo' : Nat} {a : Option Nat} {xs : List Int} (h : OwnL o lo a xs) (hl : lo' ≤ lo) : OwnL o lo' a xs := by
  rcases h with h | ⟨j, e, h1, h2⟩
  · exact .inl h
  · exact .inr ⟨j, e, Nat.le_trans hl h1, h2⟩
theorem add_to {o : Tr AObj} {nx : Nat} {lg : List Nat} {j k : Nat} {xs : List Int} (h : o.get j = some (.row (xs.map (Value.int .i64)) 3 1 true)) (hk : k ≤ xs.length) : addCells 1 (.slice (some ⟨j, 0, none⟩) k 0) ⟨o, nx, lg⟩ = some ((xs.take k).length, (xs.take k).map (Value.int .i64)) := by
  have := add_ints (nx := nx) (lg := lg) (off := 0) (m := k) (c := 0) (rest := []) (by rw [List.append_nil]; exact h) (by omega)
  rw [List.drop_zero] at this
  rw [this, List.length_take, Nat.min_eq_left hk]
theorem add_from {o : Tr AObj} {nx : Nat} {lg : List Nat} {j k : Nat} {xs : List Int} (h : o.get j = some (.row (xs.map (Value.int .i64)) 3 1 true)) (hk : k ≤ xs.length) : addCells 1 (.slice (some ⟨j, 0 + k * 1, none⟩) (xs.length - k) 0) ⟨o, nx, lg⟩ = some ((xs.drop k).length, (xs.drop k).map (Value.int .i64)) := by
  have := add_ints (nx := nx) (lg := lg) (off := k) (m := xs.length - k) (c := 0) (rest := []) (by rw [List.append_nil]; exact h) (by omega)
  rw [Nat.zero_add, Nat.mul_one, this, List.length_drop, List.take_of_length_le (by rw [List.length_drop]; omega)]
abbrev rpX (bd : Int) (j j2 : Nat) (m : Nat) : List Value := [.int .i64 bd, .slice (some ⟨j, 0, none⟩) m 0, .slice (some ⟨j2, 0, none⟩) m 0]
/-- a pool that is put together: its two lists so far -/
def QSt (o : Tr AObj) (nx j j2 : Nat) (bd : Int) (m : Nat) (size : Int) (K : Nat) (l1 l2 : List Int) (e : Tr Value) (H : AHeap) : Prop :=
  ∃ o9 N9 lg9 P a1 b1, H = ⟨o9, N9, lg9⟩ ∧ nx + 2 ≤ P ∧ P < N9 ∧ lg9.all (fun i => Nat.ble nx i) = true ∧ (∀ x, x < nx → o9.get x = o.get x) ∧ o9.get nx = some (.row (rpX bd j j2 m) 29 0 true) ∧ o9.get (nx + 1) = some (.row [.int .i64 0, .slice none 0 0, .slice none 0 0] 29 0 true) ∧
    o9.get P = some (.row [.int .i64 bd, .slice (slA a1) l1.length 0, .slice (slA b1) l2.length 0] 29 0 true) ∧ OwnL o9 (nx + 2) a1 l1 ∧ OwnL o9 (nx + 2) b1 l2 ∧ (∀ q, a1 = some q → q < N9 ∧ q ≠ P ∧ b1 ≠ some q) ∧ (∀ q, b1 = some q → q < N9 ∧ q ≠ P) ∧
    e.get 1 = some (.int .i64 size) ∧ e.get 2 = some (.pointer (some ⟨nx, 0, none⟩)) ∧ e.get 4 = some (.pointer (some ⟨nx + 1, 0, none⟩)) ∧ e.get 7 = some (.int .i64 (.ofNat K)) ∧ e.get 8 = some (.pointer (some ⟨P, 0, none⟩))
section
variable {O : Helps} {n : Nat} {o : Tr AObj} {nx : Nat} {lg : List Nat} {bd : Int} {ids sizes : List Int}
set_option maxHeartbeats 64000000 in
theorem rtake_cons (hO : Clear O) {j j2 : Nat} (hj : j < nx) (hjb : j2 < nx) (hra : o.get j = some (.row (ids.map (Value.int .i64)) 3 1 true)) (hrb : o.get j2 = some (.row (sizes.map (Value.int .i64)) 3 1 true)) (hne : ids ≠ []) (hls : ids.length = sizes.length) (hl : ids.length ≤ 1000) (h0 : ∀ s ∈ sizes, 0 ≤ s) (hs : sumL sizes ≤ bd) (hbd : bd ≤ 1073741824) (hn : ids.length < n) (size : Int) :
    Got (oCall Try.prog [] O (n + 3) 8 [rpV bd (some j) (some j2) ids sizes, .int .i64 size] ⟨o, nx, lg⟩) (RpTo o nx lg (some j) (some j2) bd (takeL bd ids sizes size).1.1 (takeL bd ids sizes size).1.2 (mk3 (takeL bd ids sizes size).2.1 (takeL bd ids sizes size).2.2)) := by
  have hneb : sizes ≠ [] := fun e => by rw [e] at hls; exact hne (List.eq_nil_of_length_eq_zero hls)
  have ha : RIn o nx (some j) ids := .inr ⟨j, rfl, hj, hne, hra⟩
  have hb : RIn o nx (some j2) sizes := .inr ⟨j2, rfl, hjb, hneb, hrb⟩
  have hus := fun (X Y : AObj) (q : Nat) (lg : List Nat) => rused_ok (n := n + 1) (a := some j) (bd := bd) (ids := ids) (lg := lg) hO (hb.ints.keep (o' := (o.put nx (some X)).put (nx + 1) (some Y)) (nx' := nx + (q + 2)) (by omega) fun j e => by have := hb.lt e; (repeat (first | rw [qE] | rw [qF _ _ _ _ (by omega)]))) h0 (by omega) (by omega) (by omega)
  unfold takeL
  rw [y_fn (rs := [.cell 4 29, .tmp 5, .tmp 6]) (hO _ (by decide)) Try.func8 rfl (by kernel_rfl) rfl rfl]
  by_cases h1 : size < 0
  · rw [if_pos h1]
    repeat (first | with_reducible (first | refine n_on ?_ | refine n_seq ?_ | refine s_else ?_ | refine n_t ?_ | refine n_gt ?_ | refine d_t ?_ | refine n_nil ?_ | refine d_nil ?_ | refine n_block ?_ | refine n_skip ?_ | refine n_bon ?_ | refine n_bback ?_ | refine n_back ?_ | refine n_out ?_ | refine n_bout rfl ?_ | refine n_bfar rfl ?_ | refine n_ret ?_ | refine n_exit ?_ | refine n_label ?_ | refine n_scope ?_ | refine n_son ?_ | refine n_sback ?_) | (with_reducible (first | apply n_region | apply d_region); (simp only [JV, JU, JW, Nat.reduceAdd, Nat.zero_add]; exact rfl)) | (with_reducible (first | apply s_op | apply n_guard | apply n_cond | apply d_guard | apply d_op | apply n_fin | apply n_finb); (simp (maxDischargeDepth := 6) only [sy3.1, zY, qG, qP, qQ, qR, qS, qT, rowAt, ↓jg, ↓ji, Nat.reduceAdd, Nat.reduceEqDiff, ne_eq, jG, Nat.reduceLT, if_true, ite_true, Int.reduceLE, Int.reduceLT, Int.reduceEq, Int.reduceNeg, Int.reduceAdd, Nat.reduceSub, if_false, ite_false, fs_8.1, rpV, decide_eq_true h1, kind_pure, kind_load, kind_fresh, kind_other, jg, ji, undef]; first | exact rfl | exact ⟨rfl, rfl, rfl, rfl⟩); try (with_reducible refine calmK_in ?_; decide +kernel)))
    exact rp_same3 (a := some j) (b := some j2) ha hb _ _ (by simp only [all_relogL, js, ju, List.all_nil, jt, Bool.and_self])
  rw [if_neg h1]
  have d1 := decide_eq_false h1
  simp only [rpV, slA, Option.map_some] at hus
  by_cases h2 : bd < size
  · rw [if_pos (.inl h2)]
    repeat (first | with_reducible (first | refine n_on ?_ | refine n_seq ?_ | refine s_else ?_ | refine n_t ?_ | refine n_gt ?_ | refine d_t ?_ | refine n_nil ?_ | refine d_nil ?_ | refine n_block ?_ | refine n_skip ?_ | refine n_bon ?_ | refine n_bback ?_ | refine n_back ?_ | refine n_out ?_ | refine n_bout rfl ?_ | refine n_bfar rfl ?_ | refine n_ret ?_ | refine n_exit ?_ | refine n_label ?_ | refine n_scope ?_ | refine n_son ?_ | refine n_sback ?_) | (with_reducible (first | apply n_region | apply d_region); (simp only [JV, JU, JW, Nat.reduceAdd, Nat.zero_add]; exact rfl)) | (with_reducible (first | apply s_op | apply n_guard | apply n_cond | apply d_guard | apply d_op | apply n_fin | apply n_finb); (simp (maxDischargeDepth := 6) only [sy3.1, zY, qG, qP, qQ, qR, qS, qT, rowAt, ↓jg, ↓ji, Nat.reduceAdd, Nat.reduceEqDiff, ne_eq, jG, Nat.reduceLT, if_true, ite_true, Int.reduceLE, Int.reduceLT, Int.reduceEq, Int.reduceNeg, Int.reduceAdd, Nat.reduceSub, if_false, ite_false, fs_8.1, rpV, d1, decide_eq_true h2, kind_pure, kind_load, kind_fresh, kind_other, jg, ji, undef]; first | exact rfl | exact ⟨rfl, rfl, rfl, rfl⟩); try (with_reducible refine calmK_in ?_; decide +kernel)))
    exact rp_same3 (a := some j) (b := some j2) ha hb _ _ (by simp only [all_relogL, js, ju, List.all_nil, jt, Bool.and_self])
  have d2 := decide_eq_false h2
  have hs0 := sum_nn h0
  have w1 : IntKind.i64.wrap (sumL sizes + size) = sumL sizes + size := wrap_any (by omega) (by omega)
  by_cases h3 : bd < sumL sizes + size
  · rw [if_pos (.inr (.inl h3))]
    repeat (first | with_reducible (first | refine n_on ?_ | refine n_seq ?_ | refine s_else ?_ | refine n_t ?_ | refine n_gt ?_ | refine d_t ?_ | refine n_nil ?_ | refine d_nil ?_ | refine n_block ?_ | refine n_skip ?_ | refine n_bon ?_ | refine n_bback ?_ | refine n_back ?_ | refine n_out ?_ | refine n_bout rfl ?_ | refine n_bfar rfl ?_ | refine n_ret ?_ | refine n_exit ?_ | refine n_label ?_ | refine n_scope ?_ | refine n_son ?_ | refine n_sback ?_) | (with_reducible (first | apply n_region | apply d_region); (simp only [JV, JU, JW, Nat.reduceAdd, Nat.zero_add]; exact rfl)) | (with_reducible (first | apply s_op | apply n_guard | apply n_cond | apply d_guard | apply d_op | apply n_fin | apply n_finb); (simp (maxDischargeDepth := 6) only [sy3.1, zY, qG, qP, qQ, qR, qS, qT, rowAt, ↓jg, ↓ji, Nat.reduceAdd, Nat.reduceEqDiff, ne_eq, jG, Nat.reduceLT, if_true, ite_true, Int.reduceLE, Int.reduceLT, Int.reduceEq, Int.reduceNeg, Int.reduceAdd, Nat.reduceSub, if_false, ite_false, fs_8.1, rpV, slA, hus, d1, d2, w1, decide_eq_true h3, kind_pure, kind_load, kind_fresh, kind_other, jg, ji, undef]; first | exact rfl | exact ⟨rfl, rfl, rfl, rfl⟩); try (with_reducible refine calmK_in ?_; decide +kernel)))
    exact rp_same3 (a := some j) (b := some j2) ha hb _ _ (by simp only [all_relogL, js, ju, List.all_nil, jt, Bool.and_self])
  rw [if_neg (show ¬ (bd < size ∨ bd < sumL sizes + size ∨ 65536 ≤ ids.length) by omega)]
  have d3 := decide_eq_false h3
  have d4 : decide ((65536 : Int) ≤ Int.ofNat ids.length) = false := decide_eq_false (by simp only [Int.ofNat_eq_natCast]; omega)
  repeat (first | with_reducible (first | refine n_on ?_ | refine n_seq ?_ | refine s_else ?_ | refine n_t ?_ | refine n_gt ?_ | refine d_t ?_ | refine n_nil ?_ | refine d_nil ?_ | refine n_block ?_ | refine n_skip ?_ | refine n_bon ?_ | refine n_bback ?_ | refine n_back ?_ | refine n_out ?_ | refine n_bout rfl ?_ | refine n_bfar rfl ?_ | refine n_ret ?_ | refine n_exit ?_ | refine n_label ?_ | refine n_scope ?_ | refine n_son ?_ | refine n_sback ?_) | (with_reducible (first | apply n_region | apply d_region); (simp only [JV, JU, JW, Nat.reduceAdd, Nat.zero_add]; exact rfl)) | (with_reducible (first | apply s_op | apply n_guard | apply n_cond | apply d_guard | apply d_op | apply n_fin | apply n_finb); (simp (maxDischargeDepth := 6) only [sy3.1, zY, qG, qP, qQ, qR, qS, qT, rowAt, ↓jg, ↓ji, Nat.reduceAdd, Nat.reduceEqDiff, ne_eq, jG, Nat.reduceLT, if_true, ite_true, Int.reduceLE, Int.reduceLT, Int.reduceEq, Int.reduceNeg, Int.reduceAdd, Nat.reduceSub, if_false, ite_false, fs_8.1, rpV, slA, hus, d1, d2, w1, d3, d4, kind_pure, kind_load, kind_fresh, kind_other, jg, ji, undef]; first | exact rfl | exact ⟨rfl, rfl, rfl, rfl⟩); try (with_reducible refine calmK_in ?_; decide +kernel)))
  refine loop_cut (i := 0) (I := fun e' H => ∃ nx' lg', H = (⟨(o.put nx (some (.row (rpX bd j j2 ids.length) 29 0 true))).put (nx + 1) (some (.row [.int .i64 0, .slice none 0 0, .slice none 0 0] 29 0 true)), nx', lg'⟩ : AHeap) ∧ nx + 2 ≤ nx' ∧ lg'.all (fun i => Nat.ble nx i) = true ∧ e'.get 1 = some (.int .i64 size) ∧ e'.get 2 = some (.pointer (some ⟨nx, 0, none⟩)) ∧ e'.get 4 = some (.pointer (some ⟨nx + 1, 0, none⟩)) ∧ e'.get 7 = some (.int .i64 (.ofNat (gapN ids 0))) ∧ gapN ids 0 ≤ ids.length) ?_ ?_
  · rw [y_loop_eq]
    refine y_loop (I := fun q e' H => ∃ d r nx' lg', ids = d ++ r ∧ r.length = q ∧ gapN ids 0 = gapN r d.length ∧ H = (⟨(o.put nx (some (.row (rpX bd j j2 ids.length) 29 0 true))).put (nx + 1) (some (.row [.int .i64 0, .slice none 0 0, .slice none 0 0] 29 0 true)), nx', lg'⟩ : AHeap) ∧ nx + 2 ≤ nx' ∧ lg'.all (fun i => Nat.ble nx i) = true ∧ e'.get 1 = some (.int .i64 size) ∧ e'.get 2 = some (.pointer (some ⟨nx, 0, none⟩)) ∧ e'.get 4 = some (.pointer (some ⟨nx + 1, 0, none⟩)) ∧ e'.get 7 = some (.int .i64 (.ofNat d.length))) ?_ ids.length _ _ _ ⟨[], ids, _, _, rfl, rfl, rfl, by rw [hls], by omega, by simp only [all_relogL, js, ju, List.all_nil, jt, Bool.and_self], ?_, ?_, ?_, ?_⟩ (by omega)
    rotate_left
    · simp only [qC, qD, qE, qF, Tr.get_nil, ne_eq, not_false_eq_true, Nat.reduceEqDiff]; rfl
    · simp only [qC, qD, qE, qF, Tr.get_nil, ne_eq, not_false_eq_true, Nat.reduceEqDiff]
    · simp only [qC, qD, qE, qF, Tr.get_nil, ne_eq, not_false_eq_true, Nat.reduceEqDiff]
    · simp only [qC, qD, qE, qF, Tr.get_nil, ne_eq, not_false_eq_true, Nat.reduceEqDiff]; rfl
    rintro q e' H ⟨d, r, nx', lg', hdr, hq, hgap, rfl, hnx, hlg, g1, g2, g4, g7⟩
    have hdl : d.length + r.length = ids.length := by rw [hdr, List.length_append]
    cases r with
    | nil =>
      have hlt : decide (d.length < ids.length) = false := decide_eq_false (by rw [← hdl]; simp)
      repeat (first | with_reducible (first | refine n_on ?_ | refine n_seq ?_ | refine s_else ?_ | refine n_t ?_ | refine n_gt ?_ | refine d_t ?_ | refine n_nil ?_ | refine d_nil ?_ | refine n_block ?_ | refine n_skip ?_ | refine n_bon ?_ | refine n_bback ?_ | refine n_back ?_ | refine n_out ?_ | refine n_bout rfl ?_ | refine n_bfar rfl ?_ | refine n_ret ?_ | refine n_exit ?_ | refine n_label ?_ | refine n_scope ?_ | refine n_son ?_ | refine n_sback ?_) | (with_reducible (first | apply n_region | apply d_region); (simp only [JV, JU, JW, Nat.reduceAdd, Nat.zero_add]; exact rfl)) | (with_reducible (first | apply s_op | apply n_guard | apply n_cond | apply d_guard | apply d_op | apply n_fin | apply n_finb); (simp (maxDischargeDepth := 6) only [sy3.1, zY, qG, qP, qQ, qR, qS, qT, rowAt, ↓jg, ↓ji, Nat.reduceAdd, Nat.reduceEqDiff, ne_eq, jG, Nat.reduceLT, if_true, ite_true, Int.reduceLE, Int.reduceLT, Int.reduceEq, Int.reduceNeg, Int.reduceAdd, Nat.reduceSub, if_false, ite_false, fs_8.1, rpX, g1, g2, g4, g7, hlt, kind_pure, kind_load, kind_fresh, kind_other, jg, ji, undef]; first | exact rfl | exact ⟨rfl, rfl, rfl, rfl⟩); try (with_reducible refine calmK_in ?_; decide +kernel)))
      refine ⟨_, _, rfl, _, _, rfl, by omega, hlg, ?_, ?_, ?_, ?_, ?_⟩
      · simp only [qC, qD, qE, qF, Tr.get_nil, ne_eq, not_false_eq_true, Nat.reduceEqDiff, g1]
      · simp only [qC, qD, qE, qF, Tr.get_nil, ne_eq, not_false_eq_true, Nat.reduceEqDiff, g2]
      · simp only [qC, qD, qE, qF, Tr.get_nil, ne_eq, not_false_eq_true, Nat.reduceEqDiff, g4]
      · simp only [qC, qD, qE, qF, Tr.get_nil, ne_eq, not_false_eq_true, Nat.reduceEqDiff, g7, hgap, gapN]
      · rw [hgap, gapN]; omega
    | cons x r =>
      simp only [List.length_cons] at hdl hq
      have hlt : decide (d.length < ids.length) = true := decide_eq_true (by omega)
      have hc : (ids.map (Value.int .i64))[d.length]? = some (.int .i64 x) := by rw [hdr]; simp
      have l1 : Nat.blt d.length ids.length = true := by rw [Nat.blt_eq]; omega
      have n1 : decide (ids.length ≤ d.length) = false := decide_eq_false (by omega)
      have hw1 : IntKind.i64.wrap (Int.ofNat d.length + 1) = Int.ofNat (d.length + 1) := by rw [wrap_small _ (by simp only [Int.ofNat_eq_natCast]; omega) (by simp only [Int.ofNat_eq_natCast]; omega)]; rfl
      by_cases hx : x = Int.ofNat (d.length + 1)
      · repeat (first | with_reducible (first | refine n_on ?_ | refine n_seq ?_ | refine s_else ?_ | refine n_t ?_ | refine n_gt ?_ | refine d_t ?_ | refine n_nil ?_ | refine d_nil ?_ | refine n_block ?_ | refine n_skip ?_ | refine n_bon ?_ | refine n_bback ?_ | refine n_back ?_ | refine n_out ?_ | refine n_bout rfl ?_ | refine n_bfar rfl ?_ | refine n_ret ?_ | refine n_exit ?_ | refine n_label ?_ | refine n_scope ?_ | refine n_son ?_ | refine n_sback ?_) | (with_reducible (first | apply n_region | apply d_region); (simp only [JV, JU, JW, Nat.reduceAdd, Nat.zero_add]; exact rfl)) | (with_reducible (first | apply s_op | apply n_guard | apply n_cond | apply d_guard | apply d_op | apply n_fin | apply n_finb); (simp (maxDischargeDepth := 6) only [sy3.1, zY, qG, qP, qQ, qR, qS, qT, rowAt, ↓jg, ↓ji, Nat.reduceAdd, Nat.reduceEqDiff, ne_eq, jG, Nat.reduceLT, if_true, ite_true, Int.reduceLE, Int.reduceLT, Int.reduceEq, Int.reduceNeg, Int.reduceAdd, Nat.reduceSub, if_false, ite_false, fs_8.1, rpX, g1, g2, g4, g7, hlt, hj, hra, hc, l1, n1, hw1, decide_eq_true hx, indexAt, Option.isNone_none, Nat.mul_one, kind_pure, kind_load, kind_fresh, kind_other, jg, ji, undef]; first | exact rfl | exact ⟨rfl, rfl, rfl, rfl⟩); try (with_reducible refine calmK_in ?_; decide +kernel)))
        refine ⟨r.length, by omega, d ++ [x], r, _, _, by rw [hdr, List.append_assoc]; rfl, rfl, ?_, rfl, by omega, hlg, ?_, ?_, ?_, ?_⟩
        · rw [hgap, gapN, if_pos (by rw [hx]; rfl), List.length_append]; rfl
        · simp only [qC, qD, qE, qF, Tr.get_nil, ne_eq, not_false_eq_true, Nat.reduceEqDiff, g1]
        · simp only [qC, qD, qE, qF, Tr.get_nil, ne_eq, not_false_eq_true, Nat.reduceEqDiff, g2]
        · simp only [qC, qD, qE, qF, Tr.get_nil, ne_eq, not_false_eq_true, Nat.reduceEqDiff, g4]
        · simp only [qC, qD, qE, qF, Tr.get_nil, ne_eq, not_false_eq_true, Nat.reduceEqDiff]; rw [List.length_append]; rfl
      · repeat (first | with_reducible (first | refine n_on ?_ | refine n_seq ?_ | refine s_else ?_ | refine n_t ?_ | refine n_gt ?_ | refine d_t ?_ | refine n_nil ?_ | refine d_nil ?_ | refine n_block ?_ | refine n_skip ?_ | refine n_bon ?_ | refine n_bback ?_ | refine n_back ?_ | refine n_out ?_ | refine n_bout rfl ?_ | refine n_bfar rfl ?_ | refine n_ret ?_ | refine n_exit ?_ | refine n_label ?_ | refine n_scope ?_ | refine n_son ?_ | refine n_sback ?_) | (with_reducible (first | apply n_region | apply d_region); (simp only [JV, JU, JW, Nat.reduceAdd, Nat.zero_add]; exact rfl)) | (with_reducible (first | apply s_op | apply n_guard | apply n_cond | apply d_guard | apply d_op | apply n_fin | apply n_finb); (simp (maxDischargeDepth := 6) only [sy3.1, zY, qG, qP, qQ, qR, qS, qT, rowAt, ↓jg, ↓ji, Nat.reduceAdd, Nat.reduceEqDiff, ne_eq, jG, Nat.reduceLT, if_true, ite_true, Int.reduceLE, Int.reduceLT, Int.reduceEq, Int.reduceNeg, Int.reduceAdd, Nat.reduceSub, if_false, ite_false, fs_8.1, rpX, g1, g2, g4, g7, hlt, hj, hra, hc, l1, n1, hw1, decide_eq_false hx, indexAt, Option.isNone_none, Nat.mul_one, kind_pure, kind_load, kind_fresh, kind_other, jg, ji, undef]; first | exact rfl | exact ⟨rfl, rfl, rfl, rfl⟩); try (with_reducible refine calmK_in ?_; decide +kernel)))
        have hg2 : gapN ids 0 = d.length := by rw [hgap, gapN, if_neg (fun e => hx (by rw [e]; rfl))]
        refine ⟨_, _, rfl, _, _, rfl, by omega, hlg, ?_, ?_, ?_, ?_, ?_⟩
        · simp only [qC, qD, qE, qF, Tr.get_nil, ne_eq, not_false_eq_true, Nat.reduceEqDiff, g1]
        · simp only [qC, qD, qE, qF, Tr.get_nil, ne_eq, not_false_eq_true, Nat.reduceEqDiff, g2]
        · simp only [qC, qD, qE, qF, Tr.get_nil, ne_eq, not_false_eq_true, Nat.reduceEqDiff, g4]
        · simp only [qC, qD, qE, qF, Tr.get_nil, ne_eq, not_false_eq_true, Nat.reduceEqDiff, g7, hg2]
        · rw [hg2]; omega
  rintro e1 H1 ⟨nx1, lg1, rfl, hn1, hlg1, g1, g2, g4, g7, hKl⟩
  generalize hK : gapN ids 0 = K at g7 hKl ⊢
  refine n_bout rfl ?_
  refine n_on ?_
  have hKw : IntKind.i64.wrap (Int.ofNat K + 1) = Int.ofNat K + 1 := wrap_any (by simp only [Int.ofNat_eq_natCast]; omega) (by simp only [Int.ofNat_eq_natCast]; omega)
  have hto := fun (jj : Nat) (xs : List Int) (hx : K ≤ xs.length) (o : Tr AObj) (nx : Nat) (lg : List Nat) (hg : o.get jj = some (.row (xs.map (Value.int .i64)) 3 1 true)) => slice_to (P := Try.prog) (H := ⟨o, nx, lg⟩) (t := 27) (e := 1) (o := 0) (n := xs.length) (k := .i64) (by kernel_rfl) hg hx
  have hfrom := fun (jj : Nat) (xs : List Int) (hx : K ≤ xs.length) (o : Tr AObj) (nx : Nat) (lg : List Nat) (hg : o.get jj = some (.row (xs.map (Value.int .i64)) 3 1 true)) => slice_from (P := Try.prog) (H := ⟨o, nx, lg⟩) (t := 27) (e := 1) (o := 0) (n := xs.length) (k := .i64) (by kernel_rfl) hg hx
  have hto1 := hto j ids hKl
  have hto2 := hto j2 sizes (by omega)
  have hfr1 := hfrom j ids hKl
  have hfr2 := hfrom j2 sizes (by omega)
  rw [← hls] at hto2 hfr2
  clear hto hfrom
  have hb1 : Nat.ble nx (nx1 + 3) = true := by rw [Nat.ble_eq]; omega
  refine y_cut (I := QSt o nx j j2 bd ids.length size K [] []) ?_ ?_
  · refine n_region (by simp only [JV, JU, JW, Nat.reduceAdd, Nat.zero_add]; exact rfl) ?_
    repeat (first | with_reducible (first | refine n_on ?_ | refine n_seq ?_ | refine s_else ?_ | refine n_t ?_ | refine n_gt ?_ | refine d_t ?_ | refine n_nil ?_ | refine d_nil ?_ | refine n_block ?_ | refine n_skip ?_ | refine n_bon ?_ | refine n_bback ?_ | refine n_back ?_ | refine n_out ?_ | refine n_bout rfl ?_ | refine n_bfar rfl ?_ | refine n_ret ?_ | refine n_exit ?_ | refine n_label ?_ | refine n_scope ?_ | refine n_son ?_ | refine n_sback ?_) | (with_reducible (first | apply n_region | apply d_region); (simp only [JV, JU, JW, Nat.reduceAdd, Nat.zero_add]; exact rfl)) | (with_reducible (first | apply s_op | apply n_guard | apply n_cond | apply d_guard | apply d_op | apply n_fin | apply n_finb); (simp (maxDischargeDepth := 6) only [sy3.1, zY, qG, qP, qQ, qR, qS, qT, rowAt, ↓jg, ↓ji, Nat.reduceAdd, Nat.reduceEqDiff, ne_eq, jG, Nat.reduceLT, if_true, ite_true, Int.reduceLE, Int.reduceLT, Int.reduceEq, Int.reduceNeg, Int.reduceAdd, Nat.reduceSub, if_false, ite_false, fs_8.1, rpX, g1, g2, g4, g7, kind_pure, kind_load, kind_fresh, kind_other, jg, ji, undef]; first | exact rfl | exact ⟨rfl, rfl, rfl, rfl⟩); try (with_reducible refine calmK_in ?_; decide +kernel)))
    refine ⟨_, _, rfl, _, _, _, nx1 + 3, none, none, rfl, by omega, by omega, by simp only [all_relogL, js, hlg1, hb1, Bool.and_self], fun x hx => by (repeat (first | rw [qE] | rw [qF _ _ _ _ (by omega)])), by (repeat (first | rw [qE] | rw [qF _ _ _ _ (by omega)])), by (repeat (first | rw [qE] | rw [qF _ _ _ _ (by omega)])), by (repeat (first | rw [qE] | rw [qF _ _ _ _ (by omega)])); rfl, .inl ⟨rfl, rfl⟩, .inl ⟨rfl, rfl⟩, fun q e => (by cases e), fun q e => (by cases e), ?_, ?_, ?_, ?_, ?_⟩ <;> simp only [qC, qD, qE, qF, Tr.get_nil, ne_eq, not_false_eq_true, Nat.reduceEqDiff, g1, g2, g4, g7]
  clear g1 g2 g4 g7
  rintro e1 H1 ⟨o9, N9, lg9, P, a1, b1, rfl, p1, p2, p3, p4, p5, p6, p7, p8, p9, p10, p11, g1, g2, g4, g7, g8⟩
  have hjx : o9.get j = some (.row (ids.map (Value.int .i64)) 3 1 true) := (p4 j hj).trans hra
  have hjbx : o9.get j2 = some (.row (sizes.map (Value.int .i64)) 3 1 true) := (p4 j2 hjb).trans hrb
  have hlj : j < N9 := by omega
  have hljb : j2 < N9 := by omega
  have hnxlt : nx < N9 := by omega
  have hP : P < N9 := p2
  have hPN : P ≠ nx := by omega
  have hbP : Nat.ble nx P = true := by rw [Nat.ble_eq]; omega
  obtain rfl := p8.nil
  refine y_cut (I := QSt o nx j j2 bd ids.length size K (ids.take K) []) ?_ ?_
  · refine d_region (by simp only [JV, JU, JW, Nat.reduceAdd, Nat.zero_add]; exact rfl) ?_
    repeat (first | with_reducible (first | refine n_on ?_ | refine n_seq ?_ | refine s_else ?_ | refine n_t ?_ | refine n_gt ?_ | refine d_t ?_ | refine n_nil ?_ | refine d_nil ?_ | refine n_block ?_ | refine n_skip ?_ | refine n_bon ?_ | refine n_bback ?_ | refine n_back ?_ | refine n_out ?_ | refine n_bout rfl ?_ | refine n_bfar rfl ?_ | refine n_ret ?_ | refine n_exit ?_ | refine n_label ?_ | refine n_scope ?_ | refine n_son ?_ | refine n_sback ?_) | (with_reducible (first | apply n_region | apply d_region); (simp only [JV, JU, JW, Nat.reduceAdd, Nat.zero_add]; exact rfl)) | (with_reducible (first | apply s_op | apply n_guard | apply n_cond | apply d_guard | apply d_op | apply n_fin | apply n_finb); (simp (maxDischargeDepth := 6) only [sy3.1, zY, qG, qP, qQ, qR, qS, qT, rowAt, ↓jg, ↓ji, Nat.reduceAdd, Nat.reduceEqDiff, ne_eq, jG, Nat.reduceLT, if_true, ite_true, Int.reduceLE, Int.reduceLT, Int.reduceEq, Int.reduceNeg, Int.reduceAdd, Nat.reduceSub, if_false, ite_false, fs_8.1, slA, rpX, g1, g2, g4, g7, g8, p5, p6, p7, hjx, hjbx, hlj, hljb, hP, hnxlt, hPN, hto1, hto2, indexAt, Option.isNone_none, Nat.mul_one, kind_pure, kind_load, kind_fresh, kind_other, jg, ji, undef]; first | exact rfl | exact ⟨rfl, rfl, rfl, rfl⟩); try (with_reducible refine calmK_in ?_; decide +kernel)))
    obtain ⟨a2, o2, happ, hk2, hown, ha2⟩ := app_new (nx := N9 + 9) (fid := N9 + 6) (lg := []) (add_to (k := K) (nx := N9 + 9) (lg := []) hjx hKl) (by rw [List.length_take]; omega)
    refine d_do (fun r => r = (.slice (slA a2) (ids.take K).length 0, ⟨o2, N9 + 9, []⟩)) 2 (by
      simp (maxDischargeDepth := 6) only [sy3.1, zY, qG, qP, qQ, qR, qS, qT, rowAt, ↓jg, ↓ji, Nat.reduceAdd, Nat.reduceEqDiff, ne_eq, jG, Nat.reduceLT, if_true, ite_true, Int.reduceLE, Int.reduceLT, Int.reduceEq, Int.reduceNeg, Int.reduceAdd, Nat.reduceSub, if_false, ite_false, fs_8.1]
      exact got_eq happ) (by
        rintro _ rfl
        show cond (List.isEmpty ([] : List Nat)) (cond (Nat.beq (N9 + 9) (N9 + 9) && true) 2 3) 4 = 2
        rw [Nat.beq_refl]; rfl) (by decide +kernel) ?_
    rintro _ _ _ _ heq cl1
    cases heq
    have q7 := (hk2 P (by omega)).trans p7
    have q6 := (hk2 (nx + 1) (by omega)).trans p6
    have q5 := (hk2 nx (by omega)).trans p5
    repeat (first | with_reducible (first | refine n_on ?_ | refine n_seq ?_ | refine s_else ?_ | refine n_t ?_ | refine n_gt ?_ | refine d_t ?_ | refine n_nil ?_ | refine d_nil ?_ | refine n_block ?_ | refine n_skip ?_ | refine n_bon ?_ | refine n_bback ?_ | refine n_back ?_ | refine n_out ?_ | refine n_bout rfl ?_ | refine n_bfar rfl ?_ | refine n_ret ?_ | refine n_exit ?_ | refine n_label ?_ | refine n_scope ?_ | refine n_son ?_ | refine n_sback ?_) | (with_reducible (first | apply n_region | apply d_region); (simp only [JV, JU, JW, Nat.reduceAdd, Nat.zero_add]; exact rfl)) | (with_reducible (first | apply s_op | apply n_guard | apply n_cond | apply d_guard | apply d_op | apply n_fin | apply n_finb); (simp (maxDischargeDepth := 6) only [sy3.1, zY, qG, qP, qQ, qR, qS, qT, rowAt, ↓jg, ↓ji, Nat.reduceAdd, Nat.reduceEqDiff, ne_eq, jG, Nat.reduceLT, if_true, ite_true, Int.reduceLE, Int.reduceLT, Int.reduceEq, Int.reduceNeg, Int.reduceAdd, Nat.reduceSub, if_false, ite_false, fs_8.1, g1, g2, g4, g7, g8, q7, hP, kind_pure, kind_load, kind_fresh, kind_other, jg, ji, undef]; first | exact rfl | exact ⟨rfl, rfl, rfl, rfl⟩); try (with_reducible refine calmK_in ?_; decide +kernel)))
    have ha2l : ∀ q, a2 = some q → q = N9 + 6 := fun q e => by
      rcases ha2 with e2 | e2
      · rw [e2] at e; cases e
      · rw [e2] at e; cases e; rfl
    refine ⟨_, _, rfl, _, _, _, P, a2, b1, rfl, p1, by omega, by simp only [all_relogL, js, p3, hbP, List.all_nil, Bool.and_self], fun x hx => ?_, ?_, ?_, ?_, ?_, ?_, fun q e => ?_, fun q e => ?_, ?_, ?_, ?_, ?_, ?_⟩
    · (repeat (first | rw [qE] | rw [qF _ _ _ _ (by omega)])); rw [hk2 x (by omega)]; exact p4 x hx
    · (repeat (first | rw [qE] | rw [qF _ _ _ _ (by omega)])); exact q5
    · (repeat (first | rw [qE] | rw [qF _ _ _ _ (by omega)])); exact q6
    · (repeat (first | rw [qE] | rw [qF _ _ _ _ (by omega)])) <;> rfl
    · exact (hown.low (by omega)).keep fun q e => by have := ha2l q e; (repeat (first | rw [qE] | rw [qF _ _ _ _ (by omega)]))
    · exact p9.keep fun q e => by have := p11 q e; (repeat (first | rw [qE] | rw [qF _ _ _ _ (by omega)])); rw [hk2 q (by omega)]
    · have := ha2l q e
      exact ⟨by omega, by omega, fun e2 => by have := (p11 q e2).1; omega⟩
    · have := p11 q e; exact ⟨by omega, this.2⟩
    · simp only [qC, qD, qE, qF, Tr.get_nil, ne_eq, not_false_eq_true, Nat.reduceEqDiff, g1]
    · simp only [qC, qD, qE, qF, Tr.get_nil, ne_eq, not_false_eq_true, Nat.reduceEqDiff, g2]
    · simp only [qC, qD, qE, qF, Tr.get_nil, ne_eq, not_false_eq_true, Nat.reduceEqDiff, g4]
    · simp only [qC, qD, qE, qF, Tr.get_nil, ne_eq, not_false_eq_true, Nat.reduceEqDiff, g7]
    · simp only [qC, qD, qE, qF, Tr.get_nil, ne_eq, not_false_eq_true, Nat.reduceEqDiff, g8]
  clear g1 g2 g4 g7 g8 p3 p4 p5 p6 p7 p8 p9 p10 p11 hjx hjbx
  rintro e1 H1 ⟨o9, N9, lg9, P, a1, b1, rfl, p1, p2, p3, p4, p5, p6, p7, p8, p9, p10, p11, g1, g2, g4, g7, g8⟩
  have hjx : o9.get j = some (.row (ids.map (Value.int .i64)) 3 1 true) := (p4 j hj).trans hra
  have hjbx : o9.get j2 = some (.row (sizes.map (Value.int .i64)) 3 1 true) := (p4 j2 hjb).trans hrb
  have hlj : j < N9 := by omega
  have hljb : j2 < N9 := by omega
  have hnxlt : nx < N9 := by omega
  have hP : P < N9 := p2
  have hPN : P ≠ nx := by omega
  have hbP : Nat.ble nx P = true := by rw [Nat.ble_eq]; omega
  obtain rfl := p9.nil
  refine y_cut (I := QSt o nx j j2 bd ids.length size K (ids.take K) (sizes.take K)) ?_ ?_
  · refine d_region (by simp only [JV, JU, JW, Nat.reduceAdd, Nat.zero_add]; exact rfl) ?_
    repeat (first | with_reducible (first | refine n_on ?_ | refine n_seq ?_ | refine s_else ?_ | refine n_t ?_ | refine n_gt ?_ | refine d_t ?_ | refine n_nil ?_ | refine d_nil ?_ | refine n_block ?_ | refine n_skip ?_ | refine n_bon ?_ | refine n_bback ?_ | refine n_back ?_ | refine n_out ?_ | refine n_bout rfl ?_ | refine n_bfar rfl ?_ | refine n_ret ?_ | refine n_exit ?_ | refine n_label ?_ | refine n_scope ?_ | refine n_son ?_ | refine n_sback ?_) | (with_reducible (first | apply n_region | apply d_region); (simp only [JV, JU, JW, Nat.reduceAdd, Nat.zero_add]; exact rfl)) | (with_reducible (first | apply s_op | apply n_guard | apply n_cond | apply d_guard | apply d_op | apply n_fin | apply n_finb); (simp (maxDischargeDepth := 6) only [sy3.1, zY, qG, qP, qQ, qR, qS, qT, rowAt, ↓jg, ↓ji, Nat.reduceAdd, Nat.reduceEqDiff, ne_eq, jG, Nat.reduceLT, if_true, ite_true, Int.reduceLE, Int.reduceLT, Int.reduceEq, Int.reduceNeg, Int.reduceAdd, Nat.reduceSub, if_false, ite_false, fs_8.1, slA, rpX, g1, g2, g4, g7, g8, p5, p6, p7, hjx, hjbx, hlj, hljb, hP, hnxlt, hPN, hto1, hto2, indexAt, Option.isNone_none, Nat.mul_one, kind_pure, kind_load, kind_fresh, kind_other, jg, ji, undef]; first | exact rfl | exact ⟨rfl, rfl, rfl, rfl⟩); try (with_reducible refine calmK_in ?_; decide +kernel)))
    obtain ⟨a2, o2, happ, hk2, hown, ha2⟩ := app_new (nx := N9 + 9) (fid := N9 + 6) (lg := []) (add_to (k := K) (nx := N9 + 9) (lg := []) hjbx (by omega)) (by rw [List.length_take]; omega)
    refine d_do (fun r => r = (.slice (slA a2) (sizes.take K).length 0, ⟨o2, N9 + 9, []⟩)) 2 (by
      simp (maxDischargeDepth := 6) only [sy3.1, zY, qG, qP, qQ, qR, qS, qT, rowAt, ↓jg, ↓ji, Nat.reduceAdd, Nat.reduceEqDiff, ne_eq, jG, Nat.reduceLT, if_true, ite_true, Int.reduceLE, Int.reduceLT, Int.reduceEq, Int.reduceNeg, Int.reduceAdd, Nat.reduceSub, if_false, ite_false, fs_8.1]
      exact got_eq happ) (by
        rintro _ rfl
        show cond (List.isEmpty ([] : List Nat)) (cond (Nat.beq (N9 + 9) (N9 + 9) && true) 2 3) 4 = 2
        rw [Nat.beq_refl]; rfl) (by decide +kernel) ?_
    rintro _ _ _ _ heq cl1
    cases heq
    have q7 := (hk2 P (by omega)).trans p7
    have q6 := (hk2 (nx + 1) (by omega)).trans p6
    have q5 := (hk2 nx (by omega)).trans p5
    repeat (first | with_reducible (first | refine n_on ?_ | refine n_seq ?_ | refine s_else ?_ | refine n_t ?_ | refine n_gt ?_ | refine d_t ?_ | refine n_nil ?_ | refine d_nil ?_ | refine n_block ?_ | refine n_skip ?_ | refine n_bon ?_ | refine n_bback ?_ | refine n_back ?_ | refine n_out ?_ | refine n_bout rfl ?_ | refine n_bfar rfl ?_ | refine n_ret ?_ | refine n_exit ?_ | refine n_label ?_ | refine n_scope ?_ | refine n_son ?_ | refine n_sback ?_) | (with_reducible (first | apply n_region | apply d_region); (simp only [JV, JU, JW, Nat.reduceAdd, Nat.zero_add]; exact rfl)) | (with_reducible (first | apply s_op | apply n_guard | apply n_cond | apply d_guard | apply d_op | apply n_fin | apply n_finb); (simp (maxDischargeDepth := 6) only [sy3.1, zY, qG, qP, qQ, qR, qS, qT, rowAt, ↓jg, ↓ji, Nat.reduceAdd, Nat.reduceEqDiff, ne_eq, jG, Nat.reduceLT, if_true, ite_true, Int.reduceLE, Int.reduceLT, Int.reduceEq, Int.reduceNeg, Int.reduceAdd, Nat.reduceSub, if_false, ite_false, fs_8.1, g1, g2, g4, g7, g8, q7, hP, kind_pure, kind_load, kind_fresh, kind_other, jg, ji, undef]; first | exact rfl | exact ⟨rfl, rfl, rfl, rfl⟩); try (with_reducible refine calmK_in ?_; decide +kernel)))
    have ha2l : ∀ q, a2 = some q → q = N9 + 6 := fun q e => by
      rcases ha2 with e2 | e2
      · rw [e2] at e; cases e
      · rw [e2] at e; cases e; rfl
    refine ⟨_, _, rfl, _, _, _, P, a1, a2, rfl, p1, by omega, by simp only [all_relogL, js, p3, hbP, List.all_nil, Bool.and_self], fun x hx => ?_, ?_, ?_, ?_, ?_, ?_, fun q e => ?_, fun q e => ?_, ?_, ?_, ?_, ?_, ?_⟩
    · (repeat (first | rw [qE] | rw [qF _ _ _ _ (by omega)])); rw [hk2 x (by omega)]; exact p4 x hx
    · (repeat (first | rw [qE] | rw [qF _ _ _ _ (by omega)])); exact q5
    · (repeat (first | rw [qE] | rw [qF _ _ _ _ (by omega)])); exact q6
    · (repeat (first | rw [qE] | rw [qF _ _ _ _ (by omega)])) <;> rfl
    · exact p8.keep fun q e => by have := p10 q e; (repeat (first | rw [qE] | rw [qF _ _ _ _ (by omega)])); rw [hk2 q (by omega)]
    · exact (hown.low (by omega)).keep fun q e => by have := ha2l q e; (repeat (first | rw [qE] | rw [qF _ _ _ _ (by omega)]))
    · have := p10 q e
      exact ⟨by omega, this.2.1, fun e2 => by have := ha2l q e2; omega⟩
    · have := ha2l q e; exact ⟨by omega, by omega⟩
    · simp only [qC, qD, qE, qF, Tr.get_nil, ne_eq, not_false_eq_true, Nat.reduceEqDiff, g1]
    · simp only [qC, qD, qE, qF, Tr.get_nil, ne_eq, not_false_eq_true, Nat.reduceEqDiff, g2]
    · simp only [qC, qD, qE, qF, Tr.get_nil, ne_eq, not_false_eq_true, Nat.reduceEqDiff, g4]
    · simp only [qC, qD, qE, qF, Tr.get_nil, ne_eq, not_false_eq_true, Nat.reduceEqDiff, g7]
    · simp only [qC, qD, qE, qF, Tr.get_nil, ne_eq, not_false_eq_true, Nat.reduceEqDiff, g8]
  clear g1 g2 g4 g7 g8 p3 p4 p5 p6 p7 p8 p9 p10 p11 hjx hjbx
  rintro e1 H1 ⟨o9, N9, lg9, P, a1, b1, rfl, p1, p2, p3, p4, p5, p6, p7, p8, p9, p10, p11, g1, g2, g4, g7, g8⟩
  have hjx : o9.get j = some (.row (ids.map (Value.int .i64)) 3 1 true) := (p4 j hj).trans hra
  have hjbx : o9.get j2 = some (.row (sizes.map (Value.int .i64)) 3 1 true) := (p4 j2 hjb).trans hrb
  have hlj : j < N9 := by omega
  have hljb : j2 < N9 := by omega
  have hnxlt : nx < N9 := by omega
  have hP : P < N9 := p2
  have hPN : P ≠ nx := by omega
  have hbP : Nat.ble nx P = true := by rw [Nat.ble_eq]; omega
  have a1l : ∀ q, a1 = some q → nx + 2 ≤ q := fun q e => p8.mine e
  have a1n : ∀ q, a1 = some q → q < N9 := fun q e => (p10 q e).1
  have hlen : (ids.take K).length ≤ 1000000 := by rw [List.length_take]; omega
  refine y_cut (I := QSt o nx j j2 bd ids.length size K ((ids.take K) ++ [(Int.ofNat K + 1)]) (sizes.take K)) ?_ ?_
  · refine n_region (by simp only [JV, JU, JW, Nat.reduceAdd, Nat.zero_add]; exact rfl) ?_
    repeat (first | with_reducible (first | refine n_on ?_ | refine n_seq ?_ | refine s_else ?_ | refine n_t ?_ | refine n_gt ?_ | refine d_t ?_ | refine n_nil ?_ | refine d_nil ?_ | refine n_block ?_ | refine n_skip ?_ | refine n_bon ?_ | refine n_bback ?_ | refine n_back ?_ | refine n_out ?_ | refine n_bout rfl ?_ | refine n_bfar rfl ?_ | refine n_ret ?_ | refine n_exit ?_ | refine n_label ?_ | refine n_scope ?_ | refine n_son ?_ | refine n_sback ?_) | (with_reducible (first | apply n_region | apply d_region); (simp only [JV, JU, JW, Nat.reduceAdd, Nat.zero_add]; exact rfl)) | (with_reducible (first | apply s_op | apply n_guard | apply n_cond | apply d_guard | apply d_op | apply n_fin | apply n_finb); (simp (maxDischargeDepth := 6) only [sy3.1, zY, qG, qP, qQ, qR, qS, qT, rowAt, ↓jg, ↓ji, Nat.reduceAdd, Nat.reduceEqDiff, ne_eq, jG, Nat.reduceLT, if_true, ite_true, Int.reduceLE, Int.reduceLT, Int.reduceEq, Int.reduceNeg, Int.reduceAdd, Nat.reduceSub, if_false, ite_false, fs_8.1, rpX, g1, g2, g4, g7, g8, p5, p6, p7, hjx, hjbx, hlj, hljb, hP, hnxlt, hPN, hto1, hto2, indexAt, Option.isNone_none, Nat.mul_one, hKw, st_buildSliceV, build_int, kind_pure, kind_load, kind_fresh, kind_other, jg, ji, undef]; first | exact rfl | exact ⟨rfl, rfl, rfl, rfl⟩); try (with_reducible refine calmK_in ?_; decide +kernel)))
    obtain ⟨o2, lg2, happ, hk2, hfid, hlg2⟩ := app_one (nx := N9 + 8) (fid := N9 + 5) (lo := nx) (lg := lg9) (v := .slice (some ⟨N9 + 4, 0, none⟩) 1 2) (o := o9.put (N9 + 4) (some (.row [.int .i64 (Int.ofNat K + 1)] 3 1 true))) ((p8.low (by omega)).keep fun q e => by have := a1n q e; (repeat (first | rw [qE] | rw [qF _ _ _ _ (by omega)]))) (add_int (Int.ofNat K + 1) (qE _ _ _)) hlen (fun q e => by have := a1n q e; omega) p3
    refine s_do _ (by
      simp (maxDischargeDepth := 6) only [sy3.1, zY, qG, qP, qQ, qR, qS, qT, rowAt, ↓jg, ↓ji, Nat.reduceAdd, Nat.reduceEqDiff, ne_eq, jG, Nat.reduceLT, if_true, ite_true, Int.reduceLE, Int.reduceLT, Int.reduceEq, Int.reduceNeg, Int.reduceAdd, Nat.reduceSub, if_false, ite_false, fs_8.1]
      exact got_eq happ) ?_
    rintro _ _ heq
    cases heq
    have far : ∀ x, x < N9 → a1 ≠ some x → o2.get x = o9.get x := fun x hx hne => by rw [hk2 x (by omega) hne]; (repeat (first | rw [qE] | rw [qF _ _ _ _ (by omega)]))
    have q7 := (far P (by omega) fun e => (p10 P e).2.1 rfl).trans p7
    have q6 := (far (nx + 1) (by omega) fun e => by have := a1l _ e; omega).trans p6
    have q5 := (far nx (by omega) fun e => by have := a1l _ e; omega).trans p5
    repeat (first | with_reducible (first | refine n_on ?_ | refine n_seq ?_ | refine s_else ?_ | refine n_t ?_ | refine n_gt ?_ | refine d_t ?_ | refine n_nil ?_ | refine d_nil ?_ | refine n_block ?_ | refine n_skip ?_ | refine n_bon ?_ | refine n_bback ?_ | refine n_back ?_ | refine n_out ?_ | refine n_bout rfl ?_ | refine n_bfar rfl ?_ | refine n_ret ?_ | refine n_exit ?_ | refine n_label ?_ | refine n_scope ?_ | refine n_son ?_ | refine n_sback ?_) | (with_reducible (first | apply n_region | apply d_region); (simp only [JV, JU, JW, Nat.reduceAdd, Nat.zero_add]; exact rfl)) | (with_reducible (first | apply s_op | apply n_guard | apply n_cond | apply d_guard | apply d_op | apply n_fin | apply n_finb); (simp (maxDischargeDepth := 6) only [sy3.1, zY, qG, qP, qQ, qR, qS, qT, rowAt, ↓jg, ↓ji, Nat.reduceAdd, Nat.reduceEqDiff, ne_eq, jG, Nat.reduceLT, if_true, ite_true, Int.reduceLE, Int.reduceLT, Int.reduceEq, Int.reduceNeg, Int.reduceAdd, Nat.reduceSub, if_false, ite_false, fs_8.1, g1, g2, g4, g7, g8, q7, hP, kind_pure, kind_load, kind_fresh, kind_other, jg, ji, undef]; first | exact rfl | exact ⟨rfl, rfl, rfl, rfl⟩); try (with_reducible refine calmK_in ?_; decide +kernel)))
    refine ⟨_, _, rfl, _, _, _, P, some (N9 + 5), b1, rfl, p1, by omega, by simp only [all_relogL, js, hlg2, hbP, List.all_nil, Bool.and_self], fun x hx => ?_, ?_, ?_, ?_, ?_, ?_, fun q e => ?_, fun q e => ?_, ?_, ?_, ?_, ?_, ?_⟩
    · (repeat (first | rw [qE] | rw [qF _ _ _ _ (by omega)])); rw [far x (by omega) (fun e => by have := a1l _ e; omega)]; exact p4 x hx
    · (repeat (first | rw [qE] | rw [qF _ _ _ _ (by omega)])); exact q5
    · (repeat (first | rw [qE] | rw [qF _ _ _ _ (by omega)])); exact q6
    · (repeat (first | rw [qE] | rw [qF _ _ _ _ (by omega)]))
      simp only [List.length_append, List.length_cons, List.length_nil] <;> rfl
    · exact .inr ⟨_, rfl, by omega, by simp, by (repeat (first | rw [qE] | rw [qF _ _ _ _ (by omega)])); exact hfid⟩
    · exact p9.keep fun q e => by have := p11 q e; (repeat (first | rw [qE] | rw [qF _ _ _ _ (by omega)])); rw [far q (by omega) (fun e2 => (p10 q e2).2.2 e)]
    · cases e
      exact ⟨by omega, by omega, fun e2 => by have := (p11 _ e2).1; omega⟩
    · have := p11 q e; exact ⟨by omega, this.2⟩
    · simp only [qC, qD, qE, qF, Tr.get_nil, ne_eq, not_false_eq_true, Nat.reduceEqDiff, g1]
    · simp only [qC, qD, qE, qF, Tr.get_nil, ne_eq, not_false_eq_true, Nat.reduceEqDiff, g2]
    · simp only [qC, qD, qE, qF, Tr.get_nil, ne_eq, not_false_eq_true, Nat.reduceEqDiff, g4]
    · simp only [qC, qD, qE, qF, Tr.get_nil, ne_eq, not_false_eq_true, Nat.reduceEqDiff, g7]
    · simp only [qC, qD, qE, qF, Tr.get_nil, ne_eq, not_false_eq_true, Nat.reduceEqDiff, g8]
  clear g1 g2 g4 g7 g8 p3 p4 p5 p6 p7 p8 p9 p10 p11 hjx hjbx
  rintro e1 H1 ⟨o9, N9, lg9, P, a1, b1, rfl, p1, p2, p3, p4, p5, p6, p7, p8, p9, p10, p11, g1, g2, g4, g7, g8⟩
  have hjx : o9.get j = some (.row (ids.map (Value.int .i64)) 3 1 true) := (p4 j hj).trans hra
  have hjbx : o9.get j2 = some (.row (sizes.map (Value.int .i64)) 3 1 true) := (p4 j2 hjb).trans hrb
  have hlj : j < N9 := by omega
  have hljb : j2 < N9 := by omega
  have hnxlt : nx < N9 := by omega
  have hP : P < N9 := p2
  have hPN : P ≠ nx := by omega
  have hbP : Nat.ble nx P = true := by rw [Nat.ble_eq]; omega
  have b1l : ∀ q, b1 = some q → nx + 2 ≤ q := fun q e => p9.mine e
  have b1n : ∀ q, b1 = some q → q < N9 := fun q e => (p11 q e).1
  have hlen : (sizes.take K).length ≤ 1000000 := by rw [List.length_take]; omega
  refine y_cut (I := QSt o nx j j2 bd ids.length size K ((ids.take K) ++ [(Int.ofNat K + 1)]) ((sizes.take K) ++ [size])) ?_ ?_
  · refine n_region (by simp only [JV, JU, JW, Nat.reduceAdd, Nat.zero_add]; exact rfl) ?_
    repeat (first | with_reducible (first | refine n_on ?_ | refine n_seq ?_ | refine s_else ?_ | refine n_t ?_ | refine n_gt ?_ | refine d_t ?_ | refine n_nil ?_ | refine d_nil ?_ | refine n_block ?_ | refine n_skip ?_ | refine n_bon ?_ | refine n_bback ?_ | refine n_back ?_ | refine n_out ?_ | refine n_bout rfl ?_ | refine n_bfar rfl ?_ | refine n_ret ?_ | refine n_exit ?_ | refine n_label ?_ | refine n_scope ?_ | refine n_son ?_ | refine n_sback ?_) | (with_reducible (first | apply n_region | apply d_region); (simp only [JV, JU, JW, Nat.reduceAdd, Nat.zero_add]; exact rfl)) | (with_reducible (first | apply s_op | apply n_guard | apply n_cond | apply d_guard | apply d_op | apply n_fin | apply n_finb); (simp (maxDischargeDepth := 6) only [sy3.1, zY, qG, qP, qQ, qR, qS, qT, rowAt, ↓jg, ↓ji, Nat.reduceAdd, Nat.reduceEqDiff, ne_eq, jG, Nat.reduceLT, if_true, ite_true, Int.reduceLE, Int.reduceLT, Int.reduceEq, Int.reduceNeg, Int.reduceAdd, Nat.reduceSub, if_false, ite_false, fs_8.1, rpX, g1, g2, g4, g7, g8, p5, p6, p7, hjx, hjbx, hlj, hljb, hP, hnxlt, hPN, hto1, hto2, indexAt, Option.isNone_none, Nat.mul_one, hKw, st_buildSliceV, build_int, kind_pure, kind_load, kind_fresh, kind_other, jg, ji, undef]; first | exact rfl | exact ⟨rfl, rfl, rfl, rfl⟩); try (with_reducible refine calmK_in ?_; decide +kernel)))
    obtain ⟨o2, lg2, happ, hk2, hfid, hlg2⟩ := app_one (nx := N9 + 7) (fid := N9 + 4) (lo := nx) (lg := lg9) (v := .slice (some ⟨N9 + 3, 0, none⟩) 1 2) (o := o9.put (N9 + 3) (some (.row [.int .i64 size] 3 1 true))) ((p9.low (by omega)).keep fun q e => by have := b1n q e; (repeat (first | rw [qE] | rw [qF _ _ _ _ (by omega)]))) (add_int size (qE _ _ _)) hlen (fun q e => by have := b1n q e; omega) p3
    refine s_do _ (by
      simp (maxDischargeDepth := 6) only [sy3.1, zY, qG, qP, qQ, qR, qS, qT, rowAt, ↓jg, ↓ji, Nat.reduceAdd, Nat.reduceEqDiff, ne_eq, jG, Nat.reduceLT, if_true, ite_true, Int.reduceLE, Int.reduceLT, Int.reduceEq, Int.reduceNeg, Int.reduceAdd, Nat.reduceSub, if_false, ite_false, fs_8.1]
      exact got_eq happ) ?_
    rintro _ _ heq
    cases heq
    have far : ∀ x, x < N9 → b1 ≠ some x → o2.get x = o9.get x := fun x hx hne => by rw [hk2 x (by omega) hne]; (repeat (first | rw [qE] | rw [qF _ _ _ _ (by omega)]))
    have q7 := (far P (by omega) fun e => (p11 P e).2 rfl).trans p7
    have q6 := (far (nx + 1) (by omega) fun e => by have := b1l _ e; omega).trans p6
    have q5 := (far nx (by omega) fun e => by have := b1l _ e; omega).trans p5
    repeat (first | with_reducible (first | refine n_on ?_ | refine n_seq ?_ | refine s_else ?_ | refine n_t ?_ | refine n_gt ?_ | refine d_t ?_ | refine n_nil ?_ | refine d_nil ?_ | refine n_block ?_ | refine n_skip ?_ | refine n_bon ?_ | refine n_bback ?_ | refine n_back ?_ | refine n_out ?_ | refine n_bout rfl ?_ | refine n_bfar rfl ?_ | refine n_ret ?_ | refine n_exit ?_ | refine n_label ?_ | refine n_scope ?_ | refine n_son ?_ | refine n_sback ?_) | (with_reducible (first | apply n_region | apply d_region); (simp only [JV, JU, JW, Nat.reduceAdd, Nat.zero_add]; exact rfl)) | (with_reducible (first | apply s_op | apply n_guard | apply n_cond | apply d_guard | apply d_op | apply n_fin | apply n_finb); (simp (maxDischargeDepth := 6) only [sy3.1, zY, qG, qP, qQ, qR, qS, qT, rowAt, ↓jg, ↓ji, Nat.reduceAdd, Nat.reduceEqDiff, ne_eq, jG, Nat.reduceLT, if_true, ite_true, Int.reduceLE, Int.reduceLT, Int.reduceEq, Int.reduceNeg, Int.reduceAdd, Nat.reduceSub, if_false, ite_false, fs_8.1, g1, g2, g4, g7, g8, q7, hP, kind_pure, kind_load, kind_fresh, kind_other, jg, ji, undef]; first | exact rfl | exact ⟨rfl, rfl, rfl, rfl⟩); try (with_reducible refine calmK_in ?_; decide +kernel)))
    refine ⟨_, _, rfl, _, _, _, P, a1, some (N9 + 4), rfl, p1, by omega, by simp only [all_relogL, js, hlg2, hbP, List.all_nil, Bool.and_self], fun x hx => ?_, ?_, ?_, ?_, ?_, ?_, fun q e => ?_, fun q e => ?_, ?_, ?_, ?_, ?_, ?_⟩
    · (repeat (first | rw [qE] | rw [qF _ _ _ _ (by omega)])); rw [far x (by omega) (fun e => by have := b1l _ e; omega)]; exact p4 x hx
    · (repeat (first | rw [qE] | rw [qF _ _ _ _ (by omega)])); exact q5
    · (repeat (first | rw [qE] | rw [qF _ _ _ _ (by omega)])); exact q6
    · (repeat (first | rw [qE] | rw [qF _ _ _ _ (by omega)]))
      simp only [List.length_append, List.length_cons, List.length_nil] <;> rfl
    · exact p8.keep fun q e => by have := p10 q e; (repeat (first | rw [qE] | rw [qF _ _ _ _ (by omega)])); rw [far q (by omega) this.2.2]
    · exact .inr ⟨_, rfl, by omega, by simp, by (repeat (first | rw [qE] | rw [qF _ _ _ _ (by omega)])); exact hfid⟩
    · have := p10 q e
      exact ⟨by omega, this.2.1, fun e2 => by cases e2; omega⟩
    · cases e; exact ⟨by omega, by omega⟩
    · simp only [qC, qD, qE, qF, Tr.get_nil, ne_eq, not_false_eq_true, Nat.reduceEqDiff, g1]
    · simp only [qC, qD, qE, qF, Tr.get_nil, ne_eq, not_false_eq_true, Nat.reduceEqDiff, g2]
    · simp only [qC, qD, qE, qF, Tr.get_nil, ne_eq, not_false_eq_true, Nat.reduceEqDiff, g4]
    · simp only [qC, qD, qE, qF, Tr.get_nil, ne_eq, not_false_eq_true, Nat.reduceEqDiff, g7]
    · simp only [qC, qD, qE, qF, Tr.get_nil, ne_eq, not_false_eq_true, Nat.reduceEqDiff, g8]
  clear g1 g2 g4 g7 g8 p3 p4 p5 p6 p7 p8 p9 p10 p11 hjx hjbx
  rintro e1 H1 ⟨o9, N9, lg9, P, a1, b1, rfl, p1, p2, p3, p4, p5, p6, p7, p8, p9, p10, p11, g1, g2, g4, g7, g8⟩
  have hjx : o9.get j = some (.row (ids.map (Value.int .i64)) 3 1 true) := (p4 j hj).trans hra
  have hjbx : o9.get j2 = some (.row (sizes.map (Value.int .i64)) 3 1 true) := (p4 j2 hjb).trans hrb
  have hlj : j < N9 := by omega
  have hljb : j2 < N9 := by omega
  have hnxlt : nx < N9 := by omega
  have hP : P < N9 := p2
  have hPN : P ≠ nx := by omega
  have hbP : Nat.ble nx P = true := by rw [Nat.ble_eq]; omega
  rcases p8 with ⟨_, e⟩ | ⟨q, rfl, hq, hqne, hqrow⟩
  · simp at e
  have hqN : q < N9 := (p10 q rfl).1
  have hqP : q ≠ P := (p10 q rfl).2.1
  have hPq := hqP.symm
  refine y_cut (I := QSt o nx j j2 bd ids.length size K ((ids.take K ++ [(Int.ofNat K + 1)]) ++ ids.drop K) (sizes.take K ++ [size])) ?_ ?_
  · refine d_region (by simp only [JV, JU, JW, Nat.reduceAdd, Nat.zero_add]; exact rfl) ?_
    by_cases hKe : K = ids.length
    · have hf := hfr1
      simp only [if_pos hKe] at hf
      have hd : ids.drop K = [] := List.drop_eq_nil_of_le (by omega)
      have hap : ∀ (nx : Nat) (lg : List Nat) (fid : Nat), aAppend Try.prog 27 27 (.slice (some ⟨q, 0, none⟩) (ids.take K ++ [(Int.ofNat K + 1)]).length 0) (.slice (some ⟨j, 0, none⟩) 0 0) fid ⟨o9, nx, lg⟩ = some (.slice (some ⟨q, 0, none⟩) (ids.take K ++ [(Int.ofNat K + 1)]).length 0, ⟨o9, nx, lg⟩) := fun nx lg fid => app_same (by
        have := add_to (nx := nx) (lg := lg) (k := 0) hjx (Nat.zero_le _)
        rw [List.take_zero] at this; exact this)
      rw [hd, List.append_nil]
      repeat (first | with_reducible (first | refine n_on ?_ | refine n_seq ?_ | refine s_else ?_ | refine n_t ?_ | refine n_gt ?_ | refine d_t ?_ | refine n_nil ?_ | refine d_nil ?_ | refine n_block ?_ | refine n_skip ?_ | refine n_bon ?_ | refine n_bback ?_ | refine n_back ?_ | refine n_out ?_ | refine n_bout rfl ?_ | refine n_bfar rfl ?_ | refine n_ret ?_ | refine n_exit ?_ | refine n_label ?_ | refine n_scope ?_ | refine n_son ?_ | refine n_sback ?_) | (with_reducible (first | apply n_region | apply d_region); (simp only [JV, JU, JW, Nat.reduceAdd, Nat.zero_add]; exact rfl)) | (with_reducible (first | apply s_op | apply n_guard | apply n_cond | apply d_guard | apply d_op | apply n_fin | apply n_finb); (simp (maxDischargeDepth := 6) only [sy3.1, zY, qG, qP, qQ, qR, qS, qT, rowAt, ↓jg, ↓ji, Nat.reduceAdd, Nat.reduceEqDiff, ne_eq, jG, Nat.reduceLT, if_true, ite_true, Int.reduceLE, Int.reduceLT, Int.reduceEq, Int.reduceNeg, Int.reduceAdd, Nat.reduceSub, if_false, ite_false, fs_8.1, slA, rpX, g1, g2, g4, g7, g8, p5, p6, p7, hjx, hjbx, hlj, hljb, hP, hnxlt, hPN, hf, hap, hqP, hPq, hqN, indexAt, Option.isNone_none, Nat.mul_one, Nat.zero_add, kind_pure, kind_load, kind_fresh, kind_other, jg, ji, undef]; first | exact rfl | exact ⟨rfl, rfl, rfl, rfl⟩); try (with_reducible refine calmK_in ?_; decide +kernel)))
      refine ⟨_, _, rfl, _, _, _, P, some q, b1, rfl, p1, by omega, by simp only [all_relogL, js, p3, hbP, List.all_nil, Bool.and_self], fun x hx => ?_, ?_, ?_, ?_, ?_, ?_, fun y e => ?_, fun y e => ?_, ?_, ?_, ?_, ?_, ?_⟩
      · (repeat (first | rw [qE] | rw [qF _ _ _ _ (by omega)])); exact p4 x hx
      · (repeat (first | rw [qE] | rw [qF _ _ _ _ (by omega)])); exact p5
      · (repeat (first | rw [qE] | rw [qF _ _ _ _ (by omega)])); exact p6
      · (repeat (first | rw [qE] | rw [qF _ _ _ _ (by omega)])) <;> rfl
      · exact .inr ⟨q, rfl, hq, hqne, by (repeat (first | rw [qE] | rw [qF _ _ _ _ (by omega)])); exact hqrow⟩
      · exact p9.keep fun y e => by have := p11 y e; (repeat (first | rw [qE] | rw [qF _ _ _ _ (by omega)]))
      · have := p10 y e; exact ⟨by omega, this.2⟩
      · have := p11 y e; exact ⟨by omega, this.2⟩
      · simp only [qC, qD, qE, qF, Tr.get_nil, ne_eq, not_false_eq_true, Nat.reduceEqDiff, g1]
      · simp only [qC, qD, qE, qF, Tr.get_nil, ne_eq, not_false_eq_true, Nat.reduceEqDiff, g2]
      · simp only [qC, qD, qE, qF, Tr.get_nil, ne_eq, not_false_eq_true, Nat.reduceEqDiff, g4]
      · simp only [qC, qD, qE, qF, Tr.get_nil, ne_eq, not_false_eq_true, Nat.reduceEqDiff, g7]
      · simp only [qC, qD, qE, qF, Tr.get_nil, ne_eq, not_false_eq_true, Nat.reduceEqDiff, g8]
    · have hf := hfr1
      simp only [if_neg hKe, Nat.zero_add, Nat.mul_one] at hf
      obtain ⟨y0, ys, hd⟩ : ∃ y0 ys, ids.drop K = y0 :: ys := by
        cases hd : ids.drop K with
        | nil => have := congrArg List.length hd; rw [List.length_drop] at this; simp only [List.length_nil] at this; omega
        | cons y0 ys => exact ⟨y0, ys, rfl⟩
      have hdl : (ids.drop K).length = ids.length - K := List.length_drop
      have hap : ∀ (nx : Nat) (lg : List Nat) (fid : Nat), aAppend Try.prog 27 27 (.slice (some ⟨q, 0, none⟩) (ids.take K ++ [(Int.ofNat K + 1)]).length 0) (.slice (some ⟨j, K, none⟩) (ids.length - K) 0) fid ⟨o9, nx, lg⟩ = some (.slice (some ⟨fid, 0, none⟩) ((ids.take K ++ [(Int.ofNat K + 1)]).length + (ids.drop K).length) 0, ⟨(o9.put q none).put fid (some (.row (((ids.take K ++ [(Int.ofNat K + 1)]) ++ ids.drop K).map (Value.int .i64)) 3 1 true)), nx, noteId q lg⟩) := fun nx lg fid => by
        have h := add_from (nx := nx) (lg := lg) hjx (k := K) (by omega)
        rw [Nat.zero_add, Nat.mul_one] at h
        have e : ids.length - K = ids.length - K := by omega
        rw [e]
        rw [hd] at h hdl ⊢
        exact app_more hqrow h (by rw [List.length_append, List.length_take]; simp only [List.length_cons, List.length_nil] at hdl ⊢; omega)
      repeat (first | with_reducible (first | refine n_on ?_ | refine n_seq ?_ | refine s_else ?_ | refine n_t ?_ | refine n_gt ?_ | refine d_t ?_ | refine n_nil ?_ | refine d_nil ?_ | refine n_block ?_ | refine n_skip ?_ | refine n_bon ?_ | refine n_bback ?_ | refine n_back ?_ | refine n_out ?_ | refine n_bout rfl ?_ | refine n_bfar rfl ?_ | refine n_ret ?_ | refine n_exit ?_ | refine n_label ?_ | refine n_scope ?_ | refine n_son ?_ | refine n_sback ?_) | (with_reducible (first | apply n_region | apply d_region); (simp only [JV, JU, JW, Nat.reduceAdd, Nat.zero_add]; exact rfl)) | (with_reducible (first | apply s_op | apply n_guard | apply n_cond | apply d_guard | apply d_op | apply n_fin | apply n_finb); (simp (maxDischargeDepth := 6) only [sy3.1, zY, qG, qP, qQ, qR, qS, qT, rowAt, ↓jg, ↓ji, Nat.reduceAdd, Nat.reduceEqDiff, ne_eq, jG, Nat.reduceLT, if_true, ite_true, Int.reduceLE, Int.reduceLT, Int.reduceEq, Int.reduceNeg, Int.reduceAdd, Nat.reduceSub, if_false, ite_false, fs_8.1, slA, rpX, g1, g2, g4, g7, g8, p5, p6, p7, hjx, hjbx, hlj, hljb, hP, hnxlt, hPN, hf, hap, hqP, hPq, hqN, indexAt, Option.isNone_none, Nat.mul_one, Nat.zero_add, kind_pure, kind_load, kind_fresh, kind_other, jg, ji, undef]; first | exact rfl | exact ⟨rfl, rfl, rfl, rfl⟩); try (with_reducible refine calmK_in ?_; decide +kernel)))
      have hq2 : Nat.ble nx q = true := by rw [Nat.ble_eq]; omega
      refine ⟨_, _, rfl, _, _, _, P, some (N9 + 6), b1, rfl, p1, by omega, by simp only [all_relogL, js, p3, hbP, hq2, List.all_nil, Bool.and_self], fun x hx => ?_, ?_, ?_, ?_, ?_, ?_, fun y e => ?_, fun y e => ?_, ?_, ?_, ?_, ?_, ?_⟩
      · (repeat (first | rw [qE] | rw [qF _ _ _ _ (by omega)])); exact p4 x hx
      · (repeat (first | rw [qE] | rw [qF _ _ _ _ (by omega)])); exact p5
      · (repeat (first | rw [qE] | rw [qF _ _ _ _ (by omega)])); exact p6
      · (repeat (first | rw [qE] | rw [qF _ _ _ _ (by omega)]))
        simp only [List.length_append] <;> rfl
      · exact .inr ⟨_, rfl, by omega, by simp, by (repeat (first | rw [qE] | rw [qF _ _ _ _ (by omega)]))⟩
      · exact p9.keep fun y e => by
          have := p11 y e
          have : y ≠ q := fun e2 => (p10 q rfl).2.2 (by rw [e, e2])
          (repeat (first | rw [qE] | rw [qF _ _ _ _ (by omega)]))
      · cases e
        exact ⟨by omega, by omega, fun e2 => by have := (p11 _ e2).1; omega⟩
      · have := p11 y e; exact ⟨by omega, this.2⟩
      · simp only [qC, qD, qE, qF, Tr.get_nil, ne_eq, not_false_eq_true, Nat.reduceEqDiff, g1]
      · simp only [qC, qD, qE, qF, Tr.get_nil, ne_eq, not_false_eq_true, Nat.reduceEqDiff, g2]
      · simp only [qC, qD, qE, qF, Tr.get_nil, ne_eq, not_false_eq_true, Nat.reduceEqDiff, g4]
      · simp only [qC, qD, qE, qF, Tr.get_nil, ne_eq, not_false_eq_true, Nat.reduceEqDiff, g7]
      · simp only [qC, qD, qE, qF, Tr.get_nil, ne_eq, not_false_eq_true, Nat.reduceEqDiff, g8]
  clear g1 g2 g4 g7 g8 p3 p4 p5 p6 p7 hqrow p10 p11 hjx hjbx p9
  rintro e1 H1 ⟨o9, N9, lg9, P, a1, b1, rfl, p1, p2, p3, p4, p5, p6, p7, p8, p9, p10, p11, g1, g2, g4, g7, g8⟩
  have hjx : o9.get j = some (.row (ids.map (Value.int .i64)) 3 1 true) := (p4 j hj).trans hra
  have hjbx : o9.get j2 = some (.row (sizes.map (Value.int .i64)) 3 1 true) := (p4 j2 hjb).trans hrb
  have hlj : j < N9 := by omega
  have hljb : j2 < N9 := by omega
  have hnxlt : nx < N9 := by omega
  have hP : P < N9 := p2
  have hPN : P ≠ nx := by omega
  have hbP : Nat.ble nx P = true := by rw [Nat.ble_eq]; omega
  rcases p9 with ⟨_, e⟩ | ⟨q, rfl, hq, hqne, hqrow⟩
  · simp at e
  have hqN : q < N9 := (p11 q rfl).1
  have hqP : q ≠ P := (p11 q rfl).2
  have hPq := hqP.symm
  refine y_cut (I := QSt o nx j j2 bd ids.length size K ((ids.take K ++ [(Int.ofNat K + 1)]) ++ ids.drop K) ((sizes.take K ++ [size]) ++ sizes.drop K)) ?_ ?_
  · refine d_region (by simp only [JV, JU, JW, Nat.reduceAdd, Nat.zero_add]; exact rfl) ?_
    by_cases hKe : K = ids.length
    · have hf := hfr2
      simp only [if_pos hKe] at hf
      have hd : sizes.drop K = [] := List.drop_eq_nil_of_le (by omega)
      have hap : ∀ (nx : Nat) (lg : List Nat) (fid : Nat), aAppend Try.prog 27 27 (.slice (some ⟨q, 0, none⟩) (sizes.take K ++ [size]).length 0) (.slice (some ⟨j2, 0, none⟩) 0 0) fid ⟨o9, nx, lg⟩ = some (.slice (some ⟨q, 0, none⟩) (sizes.take K ++ [size]).length 0, ⟨o9, nx, lg⟩) := fun nx lg fid => app_same (by
        have := add_to (nx := nx) (lg := lg) (k := 0) hjbx (Nat.zero_le _)
        rw [List.take_zero] at this; exact this)
      rw [hd, List.append_nil]
      repeat (first | with_reducible (first | refine n_on ?_ | refine n_seq ?_ | refine s_else ?_ | refine n_t ?_ | refine n_gt ?_ | refine d_t ?_ | refine n_nil ?_ | refine d_nil ?_ | refine n_block ?_ | refine n_skip ?_ | refine n_bon ?_ | refine n_bback ?_ | refine n_back ?_ | refine n_out ?_ | refine n_bout rfl ?_ | refine n_bfar rfl ?_ | refine n_ret ?_ | refine n_exit ?_ | refine n_label ?_ | refine n_scope ?_ | refine n_son ?_ | refine n_sback ?_) | (with_reducible (first | apply n_region | apply d_region); (simp only [JV, JU, JW, Nat.reduceAdd, Nat.zero_add]; exact rfl)) | (with_reducible (first | apply s_op | apply n_guard | apply n_cond | apply d_guard | apply d_op | apply n_fin | apply n_finb); (simp (maxDischargeDepth := 6) only [sy3.1, zY, qG, qP, qQ, qR, qS, qT, rowAt, ↓jg, ↓ji, Nat.reduceAdd, Nat.reduceEqDiff, ne_eq, jG, Nat.reduceLT, if_true, ite_true, Int.reduceLE, Int.reduceLT, Int.reduceEq, Int.reduceNeg, Int.reduceAdd, Nat.reduceSub, if_false, ite_false, fs_8.1, slA, rpX, g1, g2, g4, g7, g8, p5, p6, p7, hjx, hjbx, hlj, hljb, hP, hnxlt, hPN, hf, hap, hqP, hPq, hqN, indexAt, Option.isNone_none, Nat.mul_one, Nat.zero_add, kind_pure, kind_load, kind_fresh, kind_other, jg, ji, undef]; first | exact rfl | exact ⟨rfl, rfl, rfl, rfl⟩); try (with_reducible refine calmK_in ?_; decide +kernel)))
      refine ⟨_, _, rfl, _, _, _, P, a1, some q, rfl, p1, by omega, by simp only [all_relogL, js, p3, hbP, List.all_nil, Bool.and_self], fun x hx => ?_, ?_, ?_, ?_, ?_, ?_, fun y e => ?_, fun y e => ?_, ?_, ?_, ?_, ?_, ?_⟩
      · (repeat (first | rw [qE] | rw [qF _ _ _ _ (by omega)])); exact p4 x hx
      · (repeat (first | rw [qE] | rw [qF _ _ _ _ (by omega)])); exact p5
      · (repeat (first | rw [qE] | rw [qF _ _ _ _ (by omega)])); exact p6
      · (repeat (first | rw [qE] | rw [qF _ _ _ _ (by omega)])) <;> rfl
      · exact p8.keep fun y e => by have := p10 y e; (repeat (first | rw [qE] | rw [qF _ _ _ _ (by omega)]))
      · exact .inr ⟨q, rfl, hq, hqne, by (repeat (first | rw [qE] | rw [qF _ _ _ _ (by omega)])); exact hqrow⟩
      · have := p10 y e; exact ⟨by omega, this.2⟩
      · have := p11 y e; exact ⟨by omega, this.2⟩
      · simp only [qC, qD, qE, qF, Tr.get_nil, ne_eq, not_false_eq_true, Nat.reduceEqDiff, g1]
      · simp only [qC, qD, qE, qF, Tr.get_nil, ne_eq, not_false_eq_true, Nat.reduceEqDiff, g2]
      · simp only [qC, qD, qE, qF, Tr.get_nil, ne_eq, not_false_eq_true, Nat.reduceEqDiff, g4]
      · simp only [qC, qD, qE, qF, Tr.get_nil, ne_eq, not_false_eq_true, Nat.reduceEqDiff, g7]
      · simp only [qC, qD, qE, qF, Tr.get_nil, ne_eq, not_false_eq_true, Nat.reduceEqDiff, g8]
    · have hf := hfr2
      simp only [if_neg hKe, Nat.zero_add, Nat.mul_one] at hf
      obtain ⟨y0, ys, hd⟩ : ∃ y0 ys, sizes.drop K = y0 :: ys := by
        cases hd : sizes.drop K with
        | nil => have := congrArg List.length hd; rw [List.length_drop] at this; simp only [List.length_nil] at this; omega
        | cons y0 ys => exact ⟨y0, ys, rfl⟩
      have hdl : (sizes.drop K).length = sizes.length - K := List.length_drop
      have hap : ∀ (nx : Nat) (lg : List Nat) (fid : Nat), aAppend Try.prog 27 27 (.slice (some ⟨q, 0, none⟩) (sizes.take K ++ [size]).length 0) (.slice (some ⟨j2, K, none⟩) (ids.length - K) 0) fid ⟨o9, nx, lg⟩ = some (.slice (some ⟨fid, 0, none⟩) ((sizes.take K ++ [size]).length + (sizes.drop K).length) 0, ⟨(o9.put q none).put fid (some (.row (((sizes.take K ++ [size]) ++ sizes.drop K).map (Value.int .i64)) 3 1 true)), nx, noteId q lg⟩) := fun nx lg fid => by
        have h := add_from (nx := nx) (lg := lg) hjbx (k := K) (by omega)
        rw [Nat.zero_add, Nat.mul_one] at h
        have e : ids.length - K = sizes.length - K := by omega
        rw [e]
        rw [hd] at h hdl ⊢
        exact app_more hqrow h (by rw [List.length_append, List.length_take]; simp only [List.length_cons, List.length_nil] at hdl ⊢; omega)
      repeat (first | with_reducible (first | refine n_on ?_ | refine n_seq ?_ | refine s_else ?_ | refine n_t ?_ | refine n_gt ?_ | refine d_t ?_ | refine n_nil ?_ | refine d_nil ?_ | refine n_block ?_ | refine n_skip ?_ | refine n_bon ?_ | refine n_bback ?_ | refine n_back ?_ | refine n_out ?_ | refine n_bout rfl ?_ | refine n_bfar rfl ?_ | refine n_ret ?_ | refine n_exit ?_ | refine n_label ?_ | refine n_scope ?_ | refine n_son ?_ | refine n_sback ?_) | (with_reducible (first | apply n_region | apply d_region); (simp only [JV, JU, JW, Nat.reduceAdd, Nat.zero_add]; exact rfl)) | (with_reducible (first | apply s_op | apply n_guard | apply n_cond | apply d_guard | apply d_op | apply n_fin | apply n_finb); (simp (maxDischargeDepth := 6) only [sy3.1, zY, qG, qP, qQ, qR, qS, qT, rowAt, ↓jg, ↓ji, Nat.reduceAdd, Nat.reduceEqDiff, ne_eq, jG, Nat.reduceLT, if_true, ite_true, Int.reduceLE, Int.reduceLT, Int.reduceEq, Int.reduceNeg, Int.reduceAdd, Nat.reduceSub, if_false, ite_false, fs_8.1, slA, rpX, g1, g2, g4, g7, g8, p5, p6, p7, hjx, hjbx, hlj, hljb, hP, hnxlt, hPN, hf, hap, hqP, hPq, hqN, indexAt, Option.isNone_none, Nat.mul_one, Nat.zero_add, kind_pure, kind_load, kind_fresh, kind_other, jg, ji, undef]; first | exact rfl | exact ⟨rfl, rfl, rfl, rfl⟩); try (with_reducible refine calmK_in ?_; decide +kernel)))
      have hq2 : Nat.ble nx q = true := by rw [Nat.ble_eq]; omega
      refine ⟨_, _, rfl, _, _, _, P, a1, some (N9 + 6), rfl, p1, by omega, by simp only [all_relogL, js, p3, hbP, hq2, List.all_nil, Bool.and_self], fun x hx => ?_, ?_, ?_, ?_, ?_, ?_, fun y e => ?_, fun y e => ?_, ?_, ?_, ?_, ?_, ?_⟩
      · (repeat (first | rw [qE] | rw [qF _ _ _ _ (by omega)])); exact p4 x hx
      · (repeat (first | rw [qE] | rw [qF _ _ _ _ (by omega)])); exact p5
      · (repeat (first | rw [qE] | rw [qF _ _ _ _ (by omega)])); exact p6
      · (repeat (first | rw [qE] | rw [qF _ _ _ _ (by omega)]))
        simp only [List.length_append] <;> rfl
      · exact p8.keep fun y e => by
          have := p10 y e
          have : y ≠ q := fun e2 => this.2.2 (by rw [e2])
          (repeat (first | rw [qE] | rw [qF _ _ _ _ (by omega)]))
      · exact .inr ⟨_, rfl, by omega, by simp, by (repeat (first | rw [qE] | rw [qF _ _ _ _ (by omega)]))⟩
      · have := p10 y e
        exact ⟨by omega, this.2.1, fun e2 => by cases e2; omega⟩
      · cases e; exact ⟨by omega, by omega⟩
      · simp only [qC, qD, qE, qF, Tr.get_nil, ne_eq, not_false_eq_true, Nat.reduceEqDiff, g1]
      · simp only [qC, qD, qE, qF, Tr.get_nil, ne_eq, not_false_eq_true, Nat.reduceEqDiff, g2]
      · simp only [qC, qD, qE, qF, Tr.get_nil, ne_eq, not_false_eq_true, Nat.reduceEqDiff, g4]
      · simp only [qC, qD, qE, qF, Tr.get_nil, ne_eq, not_false_eq_true, Nat.reduceEqDiff, g7]
      · simp only [qC, qD, qE, qF, Tr.get_nil, ne_eq, not_false_eq_true, Nat.reduceEqDiff, g8]
  clear g1 g2 g4 g7 g8 p3 p4 p5 p6 p7 hqrow p10 p11 hjx hjbx p8
  rintro e1 H1 ⟨o9, N9, lg9, P, a1, b1, rfl, p1, p2, p3, p4, p5, p6, p7, p8, p9, p10, p11, g1, g2, g4, g7, g8⟩
  have hbP : Nat.ble nx P = true := by rw [Nat.ble_eq]; omega
  have hP : P < N9 := p2
  have hbP2 : Nat.ble nx (nx + 1) = true := by rw [Nat.ble_eq]; omega
  have hN1 : nx + 1 < N9 := by omega
  have hP1 : P ≠ nx + 1 := by omega
  have hP2 := hP1.symm
  have e1 : ids.take K ++ [Int.ofNat K + 1] ++ ids.drop K = ids.take K ++ ((K : Nat) + 1 : Int) :: ids.drop K := by rw [List.append_assoc]; rfl
  have e2 : sizes.take K ++ [size] ++ sizes.drop K = sizes.take K ++ size :: sizes.drop K := by rw [List.append_assoc]; rfl
  rw [e1, e2] at p7
  rw [e1] at p8
  rw [e2] at p9
  repeat (first | with_reducible (first | refine n_on ?_ | refine n_seq ?_ | refine s_else ?_ | refine n_t ?_ | refine n_gt ?_ | refine d_t ?_ | refine n_nil ?_ | refine d_nil ?_ | refine n_block ?_ | refine n_skip ?_ | refine n_bon ?_ | refine n_bback ?_ | refine n_back ?_ | refine n_out ?_ | refine n_bout rfl ?_ | refine n_bfar rfl ?_ | refine n_ret ?_ | refine n_exit ?_ | refine n_label ?_ | refine n_scope ?_ | refine n_son ?_ | refine n_sback ?_) | (with_reducible (first | apply n_region | apply d_region); (simp only [JV, JU, JW, Nat.reduceAdd, Nat.zero_add]; exact rfl)) | (with_reducible (first | apply s_op | apply n_guard | apply n_cond | apply d_guard | apply d_op | apply n_fin | apply n_finb); (simp (maxDischargeDepth := 6) only [sy3.1, zY, qG, qP, qQ, qR, qS, qT, rowAt, ↓jg, ↓ji, Nat.reduceAdd, Nat.reduceEqDiff, ne_eq, jG, Nat.reduceLT, if_true, ite_true, Int.reduceLE, Int.reduceLT, Int.reduceEq, Int.reduceNeg, Int.reduceAdd, Nat.reduceSub, if_false, ite_false, fs_8.1, g1, g2, g4, g7, g8, p6, p7, hP, hN1, hP1, hP2, hKw, kind_pure, kind_load, kind_fresh, kind_other, jg, ji, undef]; first | exact rfl | exact ⟨rfl, rfl, rfl, rfl⟩); try (with_reducible refine calmK_in ?_; decide +kernel)))
  exact rp_new (a := a1) (b := b1) (ids := ids.take K ++ ((K : Nat) + 1 : Int) :: ids.drop K) (sizes := sizes.take K ++ size :: sizes.drop K) (mk := mk3 ((K : Nat) + 1) 0) (low_mk3 _ _) (by simp only [all_relogL, js, p3, hbP2, List.all_nil, Bool.and_self]) (by omega) ((p8.low (by omega)).keep fun q e => by have := p8.mine e; (repeat (first | rw [qE] | rw [qF _ _ _ _ (by omega)]))) ((p9.low (by omega)).keep fun q e => by have := p9.mine e; (repeat (first | rw [qE] | rw [qF _ _ _ _ (by omega)]))) (fun q e => by have := p10 q e; omega) (fun q e => by have := p11 q e; omega) (fun x hx => by (repeat (first | rw [qE] | rw [qF _ _ _ _ (by omega)])); exact p4 x hx)
end
end Go.Proofs.Yticeabhilkceiaa
