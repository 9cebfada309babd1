/- HeapTexts: both loops. -/
import Derived.Test.YthnlkahgmbadoaaHtLaw1
namespace Go.Proofs.Ythnlkahgmbadoaa
open Go.RowKit
set_option linter.unusedSimpArgs false
set_option linter.unusedVariables false
set_option maxRecDepth 100000

theorem HtSt.wider {z : List ByteArray} {ms bi : Nat} {oa : Option Addr} {r cnt cnt' : Nat} {e : Tr Value} {H : AHeap} (h : HtSt z ms bi oa r cnt e H) (hc : cnt ≤ cnt') : HtSt z ms bi oa r cnt' e H := by
  obtain ⟨o, nx, lg, w, B, hs, es, c, rfl, M, h1, E⟩ := h
  exact ⟨o, nx, lg, w, B, hs, es, c, rfl, M, by omega, E⟩
set_option maxHeartbeats 16000000 in
/-- a round of the inner loop -/
theorem ht_inner {z : List ByteArray} {ms bi : Nat} {oa : Option Addr} {r : Nat} {e : Tr Value} {H : AHeap} (h : HtSt z ms bi oa r (40 * r) e H) (hoa : 0 < z.length → oa = some ⟨0, 0, none⟩) (hr : r < 2) :
    Got (rCode Try.prog (oCall Try.prog [] O14 999) 999 (htB1 Try.f3) e H) fun s => ∃ e' H', s = (.on, e', H') ∧ HtSt z ms bi oa r (40 * (r + 1)) e' H' := by
  refine n_block ?_
  refine n_seq ?_
  have h0 := h
  obtain ⟨o, nx, lg, w, B, hs, es, c, rfl, M, hc, E⟩ := h0
  have g0 := E.g0; have g3 := E.g3; have g5 := E.g5; have g6 := E.g6
  repeat (first | with_reducible (first | refine n_on ?_ | refine n_seq ?_ | refine s_else ?_ | refine n_t ?_ | refine n_gt ?_ | refine d_t ?_ | refine n_nil ?_ | refine d_nil ?_ | refine n_block ?_ | refine n_skip ?_ | refine n_bon ?_ | refine n_bback ?_ | refine n_back ?_ | refine n_out ?_ | refine n_bout rfl ?_ | refine n_bfar rfl ?_ | refine n_ret ?_ | refine n_exit ?_ | refine n_label ?_ | refine n_scope ?_ | refine n_son ?_ | refine n_sback ?_) | (with_reducible (first | apply n_region | apply d_region); (simp only [JV, JU, JW, Nat.reduceAdd, Nat.zero_add]; exact rfl)) | (with_reducible (first | apply s_op | apply n_guard | apply n_cond | apply d_guard | apply d_op | apply n_fin | apply n_finb); (simp (maxDischargeDepth := 6) only [sy3.1, zY, qG, qP, qQ, qR, qS, qT, rowAt, ↓jg, ↓ji, Nat.reduceAdd, Nat.reduceEqDiff, ne_eq, jG, Nat.reduceLT, if_true, ite_true, Int.reduceLE, Int.reduceLT, Int.reduceEq, Int.reduceNeg, Int.reduceAdd, Nat.reduceSub, if_false, ite_false, fs_3.1, g0, g3, g5, g6, kind_pure, kind_load, kind_fresh, kind_other, jg, ji, undef]; first | exact rfl | exact ⟨rfl, rfl, rfl, rfl⟩); try (with_reducible refine calmK_in ?_; decide +kernel)))
  rw [y_loop_eq]
  refine y_loop (I := fun q e H => ∃ i, i + q = 40 ∧ HtSt z ms bi oa r (40 * r + i) e H ∧ e.get 7 = some (.int .i64 (.ofNat i))) ?_ 40 _ _ _ ⟨0, rfl, ⟨o, _, lg, w, B, hs, es, c, rfl, M.more (by omega) fun _ _ => rfl, by omega, ⟨?_, ?_, ?_, ?_⟩⟩, ?_⟩ (by omega)
  rotate_left
  · simp only [qC, qD, qE, qF, Tr.get_nil, ne_eq, not_false_eq_true, Nat.reduceEqDiff, g0]
  · simp only [qC, qD, qE, qF, Tr.get_nil, ne_eq, not_false_eq_true, Nat.reduceEqDiff, g3]
  · simp only [qC, qD, qE, qF, Tr.get_nil, ne_eq, not_false_eq_true, Nat.reduceEqDiff, g5]
  · simp only [qC, qD, qE, qF, Tr.get_nil, ne_eq, not_false_eq_true, Nat.reduceEqDiff, g6]
  · simp only [qC, qD, qE, qF, Tr.get_nil, ne_eq, not_false_eq_true, Nat.reduceEqDiff]; rfl
  clear h M E g0 g3 g5 g6 hc
  rintro q e1 H1 ⟨i, hiq, hst, g7⟩
  have hst' := hst
  obtain ⟨o, nx, lg, w, B, hs, es, c, rfl, M, hc, E⟩ := hst'
  have g0 := E.g0; have g3 := E.g3; have g5 := E.g5; have g6 := E.g6
  by_cases hin : i < z.length ∧ i < 40
  · have l1 : decide (i < z.length) = true := decide_eq_true hin.1
    have l2 : decide (Int.ofNat i < 40) = true := decide_eq_true (by simp only [Int.ofNat_eq_natCast]; omega)
    refine y_cut (I := fun e' H' => HtSt z ms bi oa r (40 * r + i) e' H' ∧ e'.get 7 = some (.int .i64 (.ofNat i))) ?_ ?_
    · refine n_seq ?_
      repeat (first | with_reducible (first | refine n_on ?_ | refine n_seq ?_ | refine s_else ?_ | refine n_t ?_ | refine n_gt ?_ | refine d_t ?_ | refine n_nil ?_ | refine d_nil ?_ | refine n_block ?_ | refine n_skip ?_ | refine n_bon ?_ | refine n_bback ?_ | refine n_back ?_ | refine n_out ?_ | refine n_bout rfl ?_ | refine n_bfar rfl ?_ | refine n_ret ?_ | refine n_exit ?_ | refine n_label ?_ | refine n_scope ?_ | refine n_son ?_ | refine n_sback ?_) | (with_reducible (first | apply n_region | apply d_region); (simp only [JV, JU, JW, Nat.reduceAdd, Nat.zero_add]; exact rfl)) | (with_reducible (first | apply s_op | apply n_guard | apply n_cond | apply d_guard | apply d_op | apply n_fin | apply n_finb); (simp (maxDischargeDepth := 6) only [sy3.1, zY, qG, qP, qQ, qR, qS, qT, rowAt, ↓jg, ↓ji, Nat.reduceAdd, Nat.reduceEqDiff, ne_eq, jG, Nat.reduceLT, if_true, ite_true, Int.reduceLE, Int.reduceLT, Int.reduceEq, Int.reduceNeg, Int.reduceAdd, Nat.reduceSub, if_false, ite_false, fs_3.1, g0, g7, l1, l2, kind_pure, kind_load, kind_fresh, kind_other, jg, ji, undef]; first | exact rfl | exact ⟨rfl, rfl, rfl, rfl⟩); try (with_reducible refine calmK_in ?_; decide +kernel)))
      refine ⟨_, _, rfl, ⟨o, _, lg, w, B, hs, es, c, rfl, M.more (by omega) fun _ _ => rfl, hc, ⟨?_, ?_, ?_, ?_⟩⟩, ?_⟩ <;> simp only [qC, qD, qE, qF, Tr.get_nil, ne_eq, not_false_eq_true, Nat.reduceEqDiff, g0, g3, g5, g6, g7]
    · rintro e5 H5 ⟨h5, g75⟩
      refine y_cut (I := fun e' H' => HtSt z ms bi oa r (40 * r + (i + 1)) e' H' ∧ e'.get 7 = some (.int .i64 (.ofNat i))) ?_ ?_
      · refine (ht_body h5 g75 hin.1 (hoa (by omega)) (by omega)).mono ?_
        rintro _ ⟨e', H', rfl, hh⟩
        exact ⟨e', H', rfl, hh⟩
      · rintro e6 H6 ⟨⟨o, nx, lg, w, B, hs, es, c, rfl, M, hc, E⟩, g7⟩
        have g0 := E.g0; have g3 := E.g3; have g5 := E.g5; have g6 := E.g6
        have hw1 : IntKind.i64.wrap (Int.ofNat i + 1) = Int.ofNat (i + 1) := by rw [wrap_small _ (by simp only [Int.ofNat_eq_natCast]; omega) (by simp only [Int.ofNat_eq_natCast]; omega)]; rfl
        refine n_region (by simp only [JV, JU, JW, Nat.reduceAdd, Nat.zero_add]; exact rfl) ?_
        repeat (first | with_reducible (first | refine n_on ?_ | refine n_seq ?_ | refine s_else ?_ | refine n_t ?_ | refine n_gt ?_ | refine d_t ?_ | refine n_nil ?_ | refine d_nil ?_ | refine n_block ?_ | refine n_skip ?_ | refine n_bon ?_ | refine n_bback ?_ | refine n_back ?_ | refine n_out ?_ | refine n_bout rfl ?_ | refine n_bfar rfl ?_ | refine n_ret ?_ | refine n_exit ?_ | refine n_label ?_ | refine n_scope ?_ | refine n_son ?_ | refine n_sback ?_) | (with_reducible (first | apply n_region | apply d_region); (simp only [JV, JU, JW, Nat.reduceAdd, Nat.zero_add]; exact rfl)) | (with_reducible (first | apply s_op | apply n_guard | apply n_cond | apply d_guard | apply d_op | apply n_fin | apply n_finb); (simp (maxDischargeDepth := 6) only [sy3.1, zY, qG, qP, qQ, qR, qS, qT, rowAt, ↓jg, ↓ji, Nat.reduceAdd, Nat.reduceEqDiff, ne_eq, jG, Nat.reduceLT, if_true, ite_true, Int.reduceLE, Int.reduceLT, Int.reduceEq, Int.reduceNeg, Int.reduceAdd, Nat.reduceSub, if_false, ite_false, fs_3.1, g7, hw1, kind_pure, kind_load, kind_fresh, kind_other, jg, ji, undef]; first | exact rfl | exact ⟨rfl, rfl, rfl, rfl⟩); try (with_reducible refine calmK_in ?_; decide +kernel)))
        refine ⟨q - 1, by omega, i + 1, by omega, ⟨o, _, lg, w, B, hs, es, c, rfl, M.more (by omega) fun _ _ => rfl, hc, ⟨?_, ?_, ?_, ?_⟩⟩, ?_⟩ <;> simp only [qC, qD, qE, qF, Tr.get_nil, ne_eq, not_false_eq_true, Nat.reduceEqDiff, g0, g3, g5, g6]
  · have hend : ∀ e' nx', nx ≤ nx' → e'.get 0 = e1.get 0 → e'.get 3 = e1.get 3 → e'.get 5 = e1.get 5 → e'.get 6 = e1.get 6 → HtSt z ms bi oa r (40 * (r + 1)) e' (⟨o, nx', lg⟩ : AHeap) := fun e' nx' hn a b c' d =>
      ⟨o, _, lg, w, B, hs, es, c, rfl, M.more hn fun _ _ => rfl, by omega, ⟨a.trans g0, b.trans g3, c'.trans g5, d.trans g6⟩⟩
    cases l1 : decide (i < z.length) with
    | false =>
      repeat (first | with_reducible (first | refine n_on ?_ | refine n_seq ?_ | refine s_else ?_ | refine n_t ?_ | refine n_gt ?_ | refine d_t ?_ | refine n_nil ?_ | refine d_nil ?_ | refine n_block ?_ | refine n_skip ?_ | refine n_bon ?_ | refine n_bback ?_ | refine n_back ?_ | refine n_out ?_ | refine n_bout rfl ?_ | refine n_bfar rfl ?_ | refine n_ret ?_ | refine n_exit ?_ | refine n_label ?_ | refine n_scope ?_ | refine n_son ?_ | refine n_sback ?_) | (with_reducible (first | apply n_region | apply d_region); (simp only [JV, JU, JW, Nat.reduceAdd, Nat.zero_add]; exact rfl)) | (with_reducible (first | apply s_op | apply n_guard | apply n_cond | apply d_guard | apply d_op | apply n_fin | apply n_finb); (simp (maxDischargeDepth := 6) only [sy3.1, zY, qG, qP, qQ, qR, qS, qT, rowAt, ↓jg, ↓ji, Nat.reduceAdd, Nat.reduceEqDiff, ne_eq, jG, Nat.reduceLT, if_true, ite_true, Int.reduceLE, Int.reduceLT, Int.reduceEq, Int.reduceNeg, Int.reduceAdd, Nat.reduceSub, if_false, ite_false, fs_3.1, g0, g7, l1, kind_pure, kind_load, kind_fresh, kind_other, jg, ji, undef]; first | exact rfl | exact ⟨rfl, rfl, rfl, rfl⟩); try (with_reducible refine calmK_in ?_; decide +kernel)))
      refine ⟨_, _, rfl, hend _ _ (by omega) ?_ ?_ ?_ ?_⟩ <;> simp only [qC, qD, qE, qF, Tr.get_nil, ne_eq, not_false_eq_true, Nat.reduceEqDiff]
    | true =>
      have hil := of_decide_eq_true l1
      have l2 : decide (Int.ofNat i < 40) = false := decide_eq_false (by simp only [Int.ofNat_eq_natCast]; omega)
      repeat (first | with_reducible (first | refine n_on ?_ | refine n_seq ?_ | refine s_else ?_ | refine n_t ?_ | refine n_gt ?_ | refine d_t ?_ | refine n_nil ?_ | refine d_nil ?_ | refine n_block ?_ | refine n_skip ?_ | refine n_bon ?_ | refine n_bback ?_ | refine n_back ?_ | refine n_out ?_ | refine n_bout rfl ?_ | refine n_bfar rfl ?_ | refine n_ret ?_ | refine n_exit ?_ | refine n_label ?_ | refine n_scope ?_ | refine n_son ?_ | refine n_sback ?_) | (with_reducible (first | apply n_region | apply d_region); (simp only [JV, JU, JW, Nat.reduceAdd, Nat.zero_add]; exact rfl)) | (with_reducible (first | apply s_op | apply n_guard | apply n_cond | apply d_guard | apply d_op | apply n_fin | apply n_finb); (simp (maxDischargeDepth := 6) only [sy3.1, zY, qG, qP, qQ, qR, qS, qT, rowAt, ↓jg, ↓ji, Nat.reduceAdd, Nat.reduceEqDiff, ne_eq, jG, Nat.reduceLT, if_true, ite_true, Int.reduceLE, Int.reduceLT, Int.reduceEq, Int.reduceNeg, Int.reduceAdd, Nat.reduceSub, if_false, ite_false, fs_3.1, g0, g7, l1, l2, kind_pure, kind_load, kind_fresh, kind_other, jg, ji, undef]; first | exact rfl | exact ⟨rfl, rfl, rfl, rfl⟩); try (with_reducible refine calmK_in ?_; decide +kernel)))
      refine ⟨_, _, rfl, hend _ _ (by omega) ?_ ?_ ?_ ?_⟩ <;> simp only [qC, qD, qE, qF, Tr.get_nil, ne_eq, not_false_eq_true, Nat.reduceEqDiff]
set_option maxHeartbeats 16000000 in
/-- both loops -/
theorem ht_loops {z : List ByteArray} {ms bi : Nat} {oa : Option Addr} {o : Tr AObj} {nx : Nat} {lg : List Nat} {w : Nat → Nat} {B : HB} {hs : HS} {es : List MapEntry} {c : Nat} {e : Tr Value} (M : HtIn z ms bi o nx w B hs es c) (h0 : hs.texts.length = 0) (g0 : e.get 0 = some (.slice oa z.length 0)) (g3 : e.get 3 = some (.pointer (some ⟨bi, 0, none⟩))) (g5 : e.get 5 = some (.map (some ms))) (hoa : 0 < z.length → oa = some ⟨0, 0, none⟩) :
    Got (rCode Try.prog (oCall Try.prog [] O14 999) 999 (sqL (htW Try.f3)) e ⟨o, nx, lg⟩) fun s => ∃ e' H', s = (.on, e', H') ∧ ∃ r, HtSt z ms bi oa r 80 e' H' := by
  refine n_seq ?_
  repeat (first | with_reducible (first | refine n_on ?_ | refine n_seq ?_ | refine s_else ?_ | refine n_t ?_ | refine n_gt ?_ | refine d_t ?_ | refine n_nil ?_ | refine d_nil ?_ | refine n_block ?_ | refine n_skip ?_ | refine n_bon ?_ | refine n_bback ?_ | refine n_back ?_ | refine n_out ?_ | refine n_bout rfl ?_ | refine n_bfar rfl ?_ | refine n_ret ?_ | refine n_exit ?_ | refine n_label ?_ | refine n_scope ?_ | refine n_son ?_ | refine n_sback ?_) | (with_reducible (first | apply n_region | apply d_region); (simp only [JV, JU, JW, Nat.reduceAdd, Nat.zero_add]; exact rfl)) | (with_reducible (first | apply s_op | apply n_guard | apply n_cond | apply d_guard | apply d_op | apply n_fin | apply n_finb); (simp (maxDischargeDepth := 6) only [sy3.1, zY, qG, qP, qQ, qR, qS, qT, rowAt, ↓jg, ↓ji, Nat.reduceAdd, Nat.reduceEqDiff, ne_eq, jG, Nat.reduceLT, if_true, ite_true, Int.reduceLE, Int.reduceLT, Int.reduceEq, Int.reduceNeg, Int.reduceAdd, Nat.reduceSub, if_false, ite_false, fs_3.1, g0, g3, g5, kind_pure, kind_load, kind_fresh, kind_other, jg, ji, undef]; first | exact rfl | exact ⟨rfl, rfl, rfl, rfl⟩); try (with_reducible refine calmK_in ?_; decide +kernel)))
  rw [y_loop_eq]
  refine y_loop (I := fun q e H => ∃ r, r + q = 2 ∧ HtSt z ms bi oa r (40 * r) e H) ?_ 2 _ _ _ ⟨0, rfl, ⟨o, _, lg, w, B, hs, es, c, rfl, M.more (by omega) fun _ _ => rfl, by omega, ⟨?_, ?_, ?_, ?_⟩⟩⟩ (by omega)
  rotate_left
  · simp only [qC, qD, qE, qF, Tr.get_nil, ne_eq, not_false_eq_true, Nat.reduceEqDiff, g0]
  · simp only [qC, qD, qE, qF, Tr.get_nil, ne_eq, not_false_eq_true, Nat.reduceEqDiff, g3]
  · simp only [qC, qD, qE, qF, Tr.get_nil, ne_eq, not_false_eq_true, Nat.reduceEqDiff, g5]
  · simp only [qC, qD, qE, qF, Tr.get_nil, ne_eq, not_false_eq_true, Nat.reduceEqDiff]; rfl
  clear M g0 g3 g5 h0
  rintro q e1 H1 ⟨r, hrq, hst⟩
  have hst' := hst
  obtain ⟨o, nx, lg, w, B, hs, es, c, rfl, M, hc, E⟩ := hst'
  have g0 := E.g0; have g3 := E.g3; have g5 := E.g5; have g6 := E.g6
  by_cases hr : r < 2
  · have l2 : decide (Int.ofNat r < 2) = true := decide_eq_true (by simp only [Int.ofNat_eq_natCast]; omega)
    refine y_cut (I := fun e' H' => HtSt z ms bi oa r (40 * r) e' H') ?_ ?_
    · refine n_seq ?_
      repeat (first | with_reducible (first | refine n_on ?_ | refine n_seq ?_ | refine s_else ?_ | refine n_t ?_ | refine n_gt ?_ | refine d_t ?_ | refine n_nil ?_ | refine d_nil ?_ | refine n_block ?_ | refine n_skip ?_ | refine n_bon ?_ | refine n_bback ?_ | refine n_back ?_ | refine n_out ?_ | refine n_bout rfl ?_ | refine n_bfar rfl ?_ | refine n_ret ?_ | refine n_exit ?_ | refine n_label ?_ | refine n_scope ?_ | refine n_son ?_ | refine n_sback ?_) | (with_reducible (first | apply n_region | apply d_region); (simp only [JV, JU, JW, Nat.reduceAdd, Nat.zero_add]; exact rfl)) | (with_reducible (first | apply s_op | apply n_guard | apply n_cond | apply d_guard | apply d_op | apply n_fin | apply n_finb); (simp (maxDischargeDepth := 6) only [sy3.1, zY, qG, qP, qQ, qR, qS, qT, rowAt, ↓jg, ↓ji, Nat.reduceAdd, Nat.reduceEqDiff, ne_eq, jG, Nat.reduceLT, if_true, ite_true, Int.reduceLE, Int.reduceLT, Int.reduceEq, Int.reduceNeg, Int.reduceAdd, Nat.reduceSub, if_false, ite_false, fs_3.1, g6, l2, kind_pure, kind_load, kind_fresh, kind_other, jg, ji, undef]; first | exact rfl | exact ⟨rfl, rfl, rfl, rfl⟩); try (with_reducible refine calmK_in ?_; decide +kernel)))
      refine ⟨_, _, rfl, ⟨o, _, lg, w, B, hs, es, c, rfl, M.more (by omega) fun _ _ => rfl, hc, ⟨?_, ?_, ?_, ?_⟩⟩⟩ <;> simp only [qC, qD, qE, qF, Tr.get_nil, ne_eq, not_false_eq_true, Nat.reduceEqDiff, g0, g3, g5, g6]
    · rintro e5 H5 h5
      refine y_cut (I := fun e' H' => HtSt z ms bi oa r (40 * (r + 1)) e' H') ?_ ?_
      · refine (ht_inner h5 hoa hr).mono ?_
        rintro _ ⟨e', H', rfl, hh⟩
        exact ⟨e', H', rfl, hh⟩
      · rintro e6 H6 ⟨o, nx, lg, w, B, hs, es, c, rfl, M, hc, E⟩
        have g0 := E.g0; have g3 := E.g3; have g5 := E.g5; have g6 := E.g6
        have hw1 : IntKind.i64.wrap (Int.ofNat r + 1) = Int.ofNat (r + 1) := by rw [wrap_small _ (by simp only [Int.ofNat_eq_natCast]; omega) (by simp only [Int.ofNat_eq_natCast]; omega)]; rfl
        refine n_region (by simp only [JV, JU, JW, Nat.reduceAdd, Nat.zero_add]; exact rfl) ?_
        repeat (first | with_reducible (first | refine n_on ?_ | refine n_seq ?_ | refine s_else ?_ | refine n_t ?_ | refine n_gt ?_ | refine d_t ?_ | refine n_nil ?_ | refine d_nil ?_ | refine n_block ?_ | refine n_skip ?_ | refine n_bon ?_ | refine n_bback ?_ | refine n_back ?_ | refine n_out ?_ | refine n_bout rfl ?_ | refine n_bfar rfl ?_ | refine n_ret ?_ | refine n_exit ?_ | refine n_label ?_ | refine n_scope ?_ | refine n_son ?_ | refine n_sback ?_) | (with_reducible (first | apply n_region | apply d_region); (simp only [JV, JU, JW, Nat.reduceAdd, Nat.zero_add]; exact rfl)) | (with_reducible (first | apply s_op | apply n_guard | apply n_cond | apply d_guard | apply d_op | apply n_fin | apply n_finb); (simp (maxDischargeDepth := 6) only [sy3.1, zY, qG, qP, qQ, qR, qS, qT, rowAt, ↓jg, ↓ji, Nat.reduceAdd, Nat.reduceEqDiff, ne_eq, jG, Nat.reduceLT, if_true, ite_true, Int.reduceLE, Int.reduceLT, Int.reduceEq, Int.reduceNeg, Int.reduceAdd, Nat.reduceSub, if_false, ite_false, fs_3.1, g6, hw1, kind_pure, kind_load, kind_fresh, kind_other, jg, ji, undef]; first | exact rfl | exact ⟨rfl, rfl, rfl, rfl⟩); try (with_reducible refine calmK_in ?_; decide +kernel)))
        refine ⟨q - 1, by omega, r + 1, by omega, ⟨o, _, lg, w, B, hs, es, c, rfl, M.more (by omega) fun _ _ => rfl, hc, ⟨?_, ?_, ?_, ?_⟩⟩⟩ <;> simp only [qC, qD, qE, qF, Tr.get_nil, ne_eq, not_false_eq_true, Nat.reduceEqDiff, g0, g3, g5]
  · have l2 : decide (Int.ofNat r < 2) = false := decide_eq_false (by simp only [Int.ofNat_eq_natCast]; omega)
    repeat (first | with_reducible (first | refine n_on ?_ | refine n_seq ?_ | refine s_else ?_ | refine n_t ?_ | refine n_gt ?_ | refine d_t ?_ | refine n_nil ?_ | refine d_nil ?_ | refine n_block ?_ | refine n_skip ?_ | refine n_bon ?_ | refine n_bback ?_ | refine n_back ?_ | refine n_out ?_ | refine n_bout rfl ?_ | refine n_bfar rfl ?_ | refine n_ret ?_ | refine n_exit ?_ | refine n_label ?_ | refine n_scope ?_ | refine n_son ?_ | refine n_sback ?_) | (with_reducible (first | apply n_region | apply d_region); (simp only [JV, JU, JW, Nat.reduceAdd, Nat.zero_add]; exact rfl)) | (with_reducible (first | apply s_op | apply n_guard | apply n_cond | apply d_guard | apply d_op | apply n_fin | apply n_finb); (simp (maxDischargeDepth := 6) only [sy3.1, zY, qG, qP, qQ, qR, qS, qT, rowAt, ↓jg, ↓ji, Nat.reduceAdd, Nat.reduceEqDiff, ne_eq, jG, Nat.reduceLT, if_true, ite_true, Int.reduceLE, Int.reduceLT, Int.reduceEq, Int.reduceNeg, Int.reduceAdd, Nat.reduceSub, if_false, ite_false, fs_3.1, g6, l2, kind_pure, kind_load, kind_fresh, kind_other, jg, ji, undef]; first | exact rfl | exact ⟨rfl, rfl, rfl, rfl⟩); try (with_reducible refine calmK_in ?_; decide +kernel)))
    refine ⟨_, _, rfl, r, ⟨o, _, lg, w, B, hs, es, c, rfl, M.more (by omega) fun _ _ => rfl, by omega, ⟨?_, ?_, ?_, ?_⟩⟩⟩ <;> simp only [qC, qD, qE, qF, Tr.get_nil, ne_eq, not_false_eq_true, Nat.reduceEqDiff, g0, g3, g5, g6]
end Go.Proofs.Ythnlkahgmbadoaa
