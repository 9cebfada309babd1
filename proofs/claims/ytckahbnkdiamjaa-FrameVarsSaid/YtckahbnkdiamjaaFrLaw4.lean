/- Frame: what the law asks at each round's end. -/
import Derived.Test.YtckahbnkdiamjaaFrLaw1
import Derived.Test.YtckahbnkdiamjaaTabEq
namespace Go.Proofs.Ytckahbnkdiamjaa
open Go.RowKit
set_option linter.unusedSimpArgs false
set_option linter.unusedVariables false
set_option maxRecDepth 100000

set_option maxHeartbeats 32000000 in
theorem law_tail {z : List Value} {bx : List Bool} {L : LB} {oa : Option Addr} {len i r : Nat} {e : Tr Value} {H : AHeap} (h : LawSt z bx L oa len i r e H) (hr60 : r ≤ 60) :
    Got (rCode Try.prog (oCall Try.prog [] O18 999) 999 (frTail Try.f4) e H) fun s => ∃ e' H', s = (Way.on, e', H') ∧ LawSt z bx L oa len i r e' H' := by
  have hO := clear18
  obtain ⟨o, nx, lg, w, B, hs, sa, c, sv, now, av, all, ups, rfl, M, R, hR, hal, hnl, E⟩ := h
  have hprg := M.prg
  have hltt := M.ltt
  have hltn := M.ltn
  have hnow := M.now
  have hltf := M.fr.ltf
  obtain ⟨zf, hfr⟩ := M.fr.row
  refine y_cut (I := fun e' H' => ∃ o' nx' lg', H' = (⟨o', nx', lg'⟩ : AHeap) ∧ nx ≤ nx' ∧ (∀ x, x < nx → o'.get x = o.get x) ∧ LEnv L oa len av i e') ?_ ?_
  · have g1 := E.g1; have g5 := E.g5; have g10 := E.g10; have g11 := E.g11; have g13 := E.g13; have g14 := E.g14; have g15 := E.g15
    refine n_seq ?_
    repeat (first | with_reducible (first | refine n_on ?_ | refine n_seq ?_ | refine s_else ?_ | refine n_t ?_ | refine n_gt ?_ | refine d_t ?_ | refine n_nil ?_ | refine d_nil ?_ | refine n_block ?_ | refine n_skip ?_ | refine n_bon ?_ | refine n_bback ?_ | refine n_back ?_ | refine n_out ?_ | refine n_bout rfl ?_ | refine n_bfar rfl ?_ | refine n_ret ?_ | refine n_exit ?_ | refine n_label ?_ | refine n_scope ?_ | refine n_son ?_ | refine n_sback ?_) | (with_reducible (first | apply n_region | apply d_region); (simp only [JV, JU, JW, Nat.reduceAdd, Nat.zero_add]; exact rfl)) | (with_reducible (first | apply s_op | apply n_guard | apply n_cond | apply d_guard | apply d_op | apply n_fin | apply n_finb); (simp (maxDischargeDepth := 6) only [sy3.1, zY, qG, qP, qQ, qR, qS, qT, rowAt, ↓jg, ↓ji, Nat.reduceAdd, Nat.reduceEqDiff, ne_eq, jG, Nat.reduceLT, if_true, ite_true, Int.reduceLE, Int.reduceLT, Int.reduceEq, Int.reduceNeg, Int.reduceAdd, Nat.reduceSub, if_false, ite_false, fs_4.1, g1, kind_pure, kind_load, kind_fresh, kind_other, jg, ji, undef]; first | exact rfl | exact ⟨rfl, rfl, rfl, rfl⟩); try (with_reducible refine calmK_in ?_; decide +kernel)))
    rw [y_loop_eq]
    refine y_loop (I := fun q e' H' => ∃ k o' nx' lg', k + q = 5 ∧ H' = (⟨o', nx', lg'⟩ : AHeap) ∧ nx ≤ nx' ∧ (∀ x, x < nx → o'.get x = o.get x) ∧ LEnv L oa len av i e' ∧ e'.get 186 = some (.int .i64 (.ofNat k))) ?_ 5 _ _ _ ⟨0, _, _, _, rfl, rfl, by omega, fun _ _ => rfl, ⟨?_, ?_, ?_, ?_, ?_, ?_, ?_⟩, ?_⟩ (by omega)
    rotate_left
    iterate 7 (simp only [qC, qD, qE, qF, Tr.get_nil, ne_eq, not_false_eq_true, Nat.reduceEqDiff]; assumption)
    · simp only [qC, qD, qE, qF, Tr.get_nil, ne_eq, not_false_eq_true, Nat.reduceEqDiff]; rfl
    clear g1 g5 g10 g11 g13 g14 g15
    rintro q e3 H3 ⟨k, o3, nx3, lg3, hkq, rfl, hn3, hold, E3, g186⟩
    have g1 := E3.g1; have g5 := E3.g5; have g10 := E3.g10; have g11 := E3.g11; have g13 := E3.g13; have g14 := E3.g14; have g15 := E3.g15
    rw [← M.hB] at g5
    cases q with
    | zero =>
      have hlt : decide (Int.ofNat k < 5) = false := decide_eq_false (by simp only [Int.ofNat_eq_natCast]; omega)
      repeat (first | with_reducible (first | refine n_on ?_ | refine n_seq ?_ | refine s_else ?_ | refine n_t ?_ | refine n_gt ?_ | refine d_t ?_ | refine n_nil ?_ | refine d_nil ?_ | refine n_block ?_ | refine n_skip ?_ | refine n_bon ?_ | refine n_bback ?_ | refine n_back ?_ | refine n_out ?_ | refine n_bout rfl ?_ | refine n_bfar rfl ?_ | refine n_ret ?_ | refine n_exit ?_ | refine n_label ?_ | refine n_scope ?_ | refine n_son ?_ | refine n_sback ?_) | (with_reducible (first | apply n_region | apply d_region); (simp only [JV, JU, JW, Nat.reduceAdd, Nat.zero_add]; exact rfl)) | (with_reducible (first | apply s_op | apply n_guard | apply n_cond | apply d_guard | apply d_op | apply n_fin | apply n_finb); (simp (maxDischargeDepth := 6) only [sy3.1, zY, qG, qP, qQ, qR, qS, qT, rowAt, ↓jg, ↓ji, Nat.reduceAdd, Nat.reduceEqDiff, ne_eq, jG, Nat.reduceLT, if_true, ite_true, Int.reduceLE, Int.reduceLT, Int.reduceEq, Int.reduceNeg, Int.reduceAdd, Nat.reduceSub, if_false, ite_false, fs_4.1, g186, hlt, kind_pure, kind_load, kind_fresh, kind_other, jg, ji, undef]; first | exact rfl | exact ⟨rfl, rfl, rfl, rfl⟩); try (with_reducible refine calmK_in ?_; decide +kernel)))
      refine ⟨_, _, rfl, _, _, _, rfl, by omega, hold, ⟨?_, ?_, ?_, ?_, ?_, ?_, ?_⟩⟩ <;> simp only [qC, qD, qE, qF, Tr.get_nil, ne_eq, not_false_eq_true, Nat.reduceEqDiff] <;> first | exact E3.g1 | exact E3.g5 | exact E3.g10 | exact E3.g11 | exact E3.g13 | exact E3.g14 | exact E3.g15
    | succ q =>
      have hk : k < 5 := by omega
      have hlt : decide (Int.ofNat k < 5) = true := decide_eq_true (by simp only [Int.ofNat_eq_natCast]; omega)
      have d0 : decide (Int.ofNat k < 0) = false := decide_eq_false (by simp only [Int.ofNat_eq_natCast]; omega)
      have d5 : decide (5 ≤ k) = false := decide_eq_false (by omega)
      have l5 : Nat.blt k 5 = true := by rw [Nat.blt_eq]; exact hk
      have hw1 : IntKind.i64.wrap (Int.ofNat k + 1) = Int.ofNat (k + 1) := by rw [wrap_small _ (by simp only [Int.ofNat_eq_natCast]; omega) (by simp only [Int.ofNat_eq_natCast]; omega)]; rfl
      have hnk : (now.map (Value.int .i64))[k]? = some (.int .i64 (now.getD k 0)) := by
        rw [List.getElem?_map, List.getElem?_eq_getElem (by rw [R.ln]; exact hk)]
        simp [List.getD, show k < now.length from by rw [R.ln]; exact hk]
      have hg := R.get hk
      have hget := fun (O1 : Tr AObj) (N1 : Nat) (L1 : List Nat) (hN : nx ≤ N1) (ho : ∀ x, x < nx → O1.get x = o.get x) => fget_ok (n := 993) (o := O1) (nx := N1) (lg := L1) hO (M.heap.more hN ho) (M.prog.more hN ho) (M.fr.more hN ho) hk
      rw [hg] at hget
      have hnum := fun (o : Tr AObj) (nx : Nat) (lg : List Nat) => num_ok (n := 998) (o := o) (nx := nx) (lg := lg) hO (now.getD k 0)
      have hprg3 := (hold _ hltt).trans hprg
      have hnow3 := (hold _ hltn).trans hnow
      have hfr3 := (hold _ hltf).trans hfr
      have lt1 : L.kt < nx3 := by omega
      have lt2 : L.kn < nx3 := by omega
      have lt3 : L.kf < nx3 := by omega
      have hfin : ∀ e' o' nx' lg', nx3 ≤ nx' → (∀ x, x < nx → o'.get x = o3.get x) → LEnv L oa len av i e' → e'.get 186 = some (.int .i64 (.ofNat (k + 1))) →
          ∃ m, m < q + 1 ∧ ∃ k o'1 nx'1 lg'1, k + m = 5 ∧ (⟨o', nx', lg'⟩ : AHeap) = ⟨o'1, nx'1, lg'1⟩ ∧ nx ≤ nx'1 ∧ (∀ x, x < nx → o'1.get x = o.get x) ∧ LEnv L oa len av i e' ∧ e'.get 186 = some (.int .i64 (.ofNat k)) := by
        rintro e' o' nx' lg' h1 h2 h3 h4
        exact ⟨q, by omega, k + 1, _, _, _, by omega, rfl, by omega, fun x hx => (h2 x hx).trans (hold x hx), h3, h4⟩
      by_cases h0 : now.getD k 0 = 0
      · unfold wantN at hget
        rw [if_pos h0] at hget
        rw [h0] at hnum hnk
        repeat (first | with_reducible (first | refine n_on ?_ | refine n_seq ?_ | refine s_else ?_ | refine n_t ?_ | refine n_gt ?_ | refine d_t ?_ | refine n_nil ?_ | refine d_nil ?_ | refine n_block ?_ | refine n_skip ?_ | refine n_bon ?_ | refine n_bback ?_ | refine n_back ?_ | refine n_out ?_ | refine n_bout rfl ?_ | refine n_bfar rfl ?_ | refine n_ret ?_ | refine n_exit ?_ | refine n_label ?_ | refine n_scope ?_ | refine n_son ?_ | refine n_sback ?_) | (with_reducible (first | apply n_region | apply d_region); (simp only [JV, JU, JW, Nat.reduceAdd, Nat.zero_add]; exact rfl)) | (with_reducible (first | apply s_op | apply n_guard | apply n_cond | apply d_guard | apply d_op | apply n_fin | apply n_finb); (simp (maxDischargeDepth := 6) only [sy3.1, zY, qG, qP, qQ, qR, qS, qT, rowAt, ↓jg, ↓ji, Nat.reduceAdd, Nat.reduceEqDiff, ne_eq, jG, Nat.reduceLT, if_true, ite_true, Int.reduceLE, Int.reduceLT, Int.reduceEq, Int.reduceNeg, Int.reduceAdd, Nat.reduceSub, if_false, ite_false, fs_4.1, g186, hlt, g1, g5, g10, g11, g13, g14, g15, d0, d5, l5, hw1, hnk, hnum, hprg3, hnow3, hfr3, lt1, lt2, lt3, vv_ne_same, frC, vv, cut_twelve, indexAt, Option.isNone_none, Nat.zero_mul, Nat.one_mul, Nat.mul_one, kind_pure, kind_load, kind_fresh, kind_other, jg, ji, undef]; first | exact rfl | exact ⟨rfl, rfl, rfl, rfl⟩); try (with_reducible refine calmK_in ?_; decide +kernel)))
        refine d_do _ 2 (by
          simp (maxDischargeDepth := 6) only [sy3.1, zY, qG, qP, qQ, qR, qS, qT, rowAt, ↓jg, ↓ji, Nat.reduceAdd, Nat.reduceEqDiff, ne_eq, jG, Nat.reduceLT, if_true, ite_true, Int.reduceLE, Int.reduceLT, Int.reduceEq, Int.reduceNeg, Int.reduceAdd, Nat.reduceSub, if_false, ite_false, fs_4.1]
          exact got_eq (hget _ _ _ (by omega) fun x hx => by (repeat (first | rw [qE] | rw [qF _ _ _ _ (by omega)])); exact hold x hx)) (by
            rintro _ rfl
            show cond (List.isEmpty ([] : List Nat)) (cond (Nat.beq (nx3 + 22) (nx3 + 22) && true) 2 3) 4 = 2
            rw [Nat.beq_refl]; rfl) (by decide +kernel) ?_
        rintro _ _ _ _ heq cl1
        cases heq
        repeat (first | with_reducible (first | refine n_on ?_ | refine n_seq ?_ | refine s_else ?_ | refine n_t ?_ | refine n_gt ?_ | refine d_t ?_ | refine n_nil ?_ | refine d_nil ?_ | refine n_block ?_ | refine n_skip ?_ | refine n_bon ?_ | refine n_bback ?_ | refine n_back ?_ | refine n_out ?_ | refine n_bout rfl ?_ | refine n_bfar rfl ?_ | refine n_ret ?_ | refine n_exit ?_ | refine n_label ?_ | refine n_scope ?_ | refine n_son ?_ | refine n_sback ?_) | (with_reducible (first | apply n_region | apply d_region); (simp only [JV, JU, JW, Nat.reduceAdd, Nat.zero_add]; exact rfl)) | (with_reducible (first | apply s_op | apply n_guard | apply n_cond | apply d_guard | apply d_op | apply n_fin | apply n_finb); (simp (maxDischargeDepth := 6) only [sy3.1, zY, qG, qP, qQ, qR, qS, qT, rowAt, ↓jg, ↓ji, Nat.reduceAdd, Nat.reduceEqDiff, ne_eq, jG, Nat.reduceLT, if_true, ite_true, Int.reduceLE, Int.reduceLT, Int.reduceEq, Int.reduceNeg, Int.reduceAdd, Nat.reduceSub, if_false, ite_false, fs_4.1, g186, hlt, g1, g5, g10, g11, g13, g14, g15, d0, d5, l5, hw1, hnk, hnum, hprg3, hnow3, hfr3, lt1, lt2, lt3, vv_ne_same, frC, vv, cut_twelve, indexAt, Option.isNone_none, Nat.zero_mul, Nat.one_mul, Nat.mul_one, kind_pure, kind_load, kind_fresh, kind_other, jg, ji, undef]; first | exact rfl | exact ⟨rfl, rfl, rfl, rfl⟩); try (with_reducible refine calmK_in ?_; decide +kernel)))
        exact hfin _ _ _ _ (by omega) (fun x hx => by (repeat (first | rw [qE] | rw [qF _ _ _ _ (by omega)]))) ⟨by simp only [qC, qD, qE, qF, Tr.get_nil, ne_eq, not_false_eq_true, Nat.reduceEqDiff]; exact E3.g1, by simp only [qC, qD, qE, qF, Tr.get_nil, ne_eq, not_false_eq_true, Nat.reduceEqDiff]; exact E3.g5, by simp only [qC, qD, qE, qF, Tr.get_nil, ne_eq, not_false_eq_true, Nat.reduceEqDiff]; exact E3.g10, by simp only [qC, qD, qE, qF, Tr.get_nil, ne_eq, not_false_eq_true, Nat.reduceEqDiff]; exact E3.g11, by simp only [qC, qD, qE, qF, Tr.get_nil, ne_eq, not_false_eq_true, Nat.reduceEqDiff]; exact E3.g13, by simp only [qC, qD, qE, qF, Tr.get_nil, ne_eq, not_false_eq_true, Nat.reduceEqDiff]; exact E3.g14, by simp only [qC, qD, qE, qF, Tr.get_nil, ne_eq, not_false_eq_true, Nat.reduceEqDiff]; exact E3.g15⟩ (by simp only [qC, qD, qE, qF, Tr.get_nil, ne_eq, not_false_eq_true, Nat.reduceEqDiff])
      · have d00 : decide (now.getD k 0 = 0) = false := decide_eq_false h0
        unfold wantN at hget
        rw [if_neg h0] at hget
        repeat (first | with_reducible (first | refine n_on ?_ | refine n_seq ?_ | refine s_else ?_ | refine n_t ?_ | refine n_gt ?_ | refine d_t ?_ | refine n_nil ?_ | refine d_nil ?_ | refine n_block ?_ | refine n_skip ?_ | refine n_bon ?_ | refine n_bback ?_ | refine n_back ?_ | refine n_out ?_ | refine n_bout rfl ?_ | refine n_bfar rfl ?_ | refine n_ret ?_ | refine n_exit ?_ | refine n_label ?_ | refine n_scope ?_ | refine n_son ?_ | refine n_sback ?_) | (with_reducible (first | apply n_region | apply d_region); (simp only [JV, JU, JW, Nat.reduceAdd, Nat.zero_add]; exact rfl)) | (with_reducible (first | apply s_op | apply n_guard | apply n_cond | apply d_guard | apply d_op | apply n_fin | apply n_finb); (simp (maxDischargeDepth := 6) only [sy3.1, zY, qG, qP, qQ, qR, qS, qT, rowAt, ↓jg, ↓ji, Nat.reduceAdd, Nat.reduceEqDiff, ne_eq, jG, Nat.reduceLT, if_true, ite_true, Int.reduceLE, Int.reduceLT, Int.reduceEq, Int.reduceNeg, Int.reduceAdd, Nat.reduceSub, if_false, ite_false, fs_4.1, g186, hlt, g1, g5, g10, g11, g13, g14, g15, d0, d5, l5, hw1, hnk, hnum, hprg3, hnow3, hfr3, lt1, lt2, lt3, vv_ne_same, frC, vv, cut_twelve, indexAt, Option.isNone_none, Nat.zero_mul, Nat.one_mul, Nat.mul_one, d00, kind_pure, kind_load, kind_fresh, kind_other, jg, ji, undef]; first | exact rfl | exact ⟨rfl, rfl, rfl, rfl⟩); try (with_reducible refine calmK_in ?_; decide +kernel)))
        refine d_do _ 2 (by
          simp (maxDischargeDepth := 6) only [sy3.1, zY, qG, qP, qQ, qR, qS, qT, rowAt, ↓jg, ↓ji, Nat.reduceAdd, Nat.reduceEqDiff, ne_eq, jG, Nat.reduceLT, if_true, ite_true, Int.reduceLE, Int.reduceLT, Int.reduceEq, Int.reduceNeg, Int.reduceAdd, Nat.reduceSub, if_false, ite_false, fs_4.1]
          exact got_eq (hget _ _ _ (by omega) fun x hx => by (repeat (first | rw [qE] | rw [qF _ _ _ _ (by omega)])); exact hold x hx)) (by
            rintro _ rfl
            show cond (List.isEmpty ([] : List Nat)) (cond (Nat.beq (nx3 + 20) (nx3 + 20) && true) 2 3) 4 = 2
            rw [Nat.beq_refl]; rfl) (by decide +kernel) ?_
        rintro _ _ _ _ heq cl1
        cases heq
        repeat (first | with_reducible (first | refine n_on ?_ | refine n_seq ?_ | refine s_else ?_ | refine n_t ?_ | refine n_gt ?_ | refine d_t ?_ | refine n_nil ?_ | refine d_nil ?_ | refine n_block ?_ | refine n_skip ?_ | refine n_bon ?_ | refine n_bback ?_ | refine n_back ?_ | refine n_out ?_ | refine n_bout rfl ?_ | refine n_bfar rfl ?_ | refine n_ret ?_ | refine n_exit ?_ | refine n_label ?_ | refine n_scope ?_ | refine n_son ?_ | refine n_sback ?_) | (with_reducible (first | apply n_region | apply d_region); (simp only [JV, JU, JW, Nat.reduceAdd, Nat.zero_add]; exact rfl)) | (with_reducible (first | apply s_op | apply n_guard | apply n_cond | apply d_guard | apply d_op | apply n_fin | apply n_finb); (simp (maxDischargeDepth := 6) only [sy3.1, zY, qG, qP, qQ, qR, qS, qT, rowAt, ↓jg, ↓ji, Nat.reduceAdd, Nat.reduceEqDiff, ne_eq, jG, Nat.reduceLT, if_true, ite_true, Int.reduceLE, Int.reduceLT, Int.reduceEq, Int.reduceNeg, Int.reduceAdd, Nat.reduceSub, if_false, ite_false, fs_4.1, g186, hlt, g1, g5, g10, g11, g13, g14, g15, d0, d5, l5, hw1, hnk, hnum, hprg3, hnow3, hfr3, lt1, lt2, lt3, vv_ne_same, frC, vv, cut_twelve, indexAt, Option.isNone_none, Nat.zero_mul, Nat.one_mul, Nat.mul_one, d00, kind_pure, kind_load, kind_fresh, kind_other, jg, ji, undef]; first | exact rfl | exact ⟨rfl, rfl, rfl, rfl⟩); try (with_reducible refine calmK_in ?_; decide +kernel)))
        exact hfin _ _ _ _ (by omega) (fun x hx => by (repeat (first | rw [qE] | rw [qF _ _ _ _ (by omega)]))) ⟨by simp only [qC, qD, qE, qF, Tr.get_nil, ne_eq, not_false_eq_true, Nat.reduceEqDiff]; exact E3.g1, by simp only [qC, qD, qE, qF, Tr.get_nil, ne_eq, not_false_eq_true, Nat.reduceEqDiff]; exact E3.g5, by simp only [qC, qD, qE, qF, Tr.get_nil, ne_eq, not_false_eq_true, Nat.reduceEqDiff]; exact E3.g10, by simp only [qC, qD, qE, qF, Tr.get_nil, ne_eq, not_false_eq_true, Nat.reduceEqDiff]; exact E3.g11, by simp only [qC, qD, qE, qF, Tr.get_nil, ne_eq, not_false_eq_true, Nat.reduceEqDiff]; exact E3.g13, by simp only [qC, qD, qE, qF, Tr.get_nil, ne_eq, not_false_eq_true, Nat.reduceEqDiff]; exact E3.g14, by simp only [qC, qD, qE, qF, Tr.get_nil, ne_eq, not_false_eq_true, Nat.reduceEqDiff]; exact E3.g15⟩ (by simp only [qC, qD, qE, qF, Tr.get_nil, ne_eq, not_false_eq_true, Nat.reduceEqDiff])
  · rintro e2 H2 ⟨o2, nx2, lg2, rfl, hn2, hold2, E2⟩
    obtain ⟨jsl, hav⟩ := M.mds.slice
    have g14 := E2.g14
    rw [hav] at g14
    refine n_seq ?_
    repeat (first | with_reducible (first | refine n_on ?_ | refine n_seq ?_ | refine s_else ?_ | refine n_t ?_ | refine n_gt ?_ | refine d_t ?_ | refine n_nil ?_ | refine d_nil ?_ | refine n_block ?_ | refine n_skip ?_ | refine n_bon ?_ | refine n_bback ?_ | refine n_back ?_ | refine n_out ?_ | refine n_bout rfl ?_ | refine n_bfar rfl ?_ | refine n_ret ?_ | refine n_exit ?_ | refine n_label ?_ | refine n_scope ?_ | refine n_son ?_ | refine n_sback ?_) | (with_reducible (first | apply n_region | apply d_region); (simp only [JV, JU, JW, Nat.reduceAdd, Nat.zero_add]; exact rfl)) | (with_reducible (first | apply s_op | apply n_guard | apply n_cond | apply d_guard | apply d_op | apply n_fin | apply n_finb); (simp (maxDischargeDepth := 6) only [sy3.1, zY, qG, qP, qQ, qR, qS, qT, rowAt, ↓jg, ↓ji, Nat.reduceAdd, Nat.reduceEqDiff, ne_eq, jG, Nat.reduceLT, if_true, ite_true, Int.reduceLE, Int.reduceLT, Int.reduceEq, Int.reduceNeg, Int.reduceAdd, Nat.reduceSub, if_false, ite_false, fs_4.1, g14, kind_pure, kind_load, kind_fresh, kind_other, jg, ji, undef]; first | exact rfl | exact ⟨rfl, rfl, rfl, rfl⟩); try (with_reducible refine calmK_in ?_; decide +kernel)))
    rw [y_loop_eq]
    refine y_loop (I := fun q e' H' => ∃ d r o' nx' lg', all = d ++ r ∧ r.length = q ∧ H' = (⟨o', nx', lg'⟩ : AHeap) ∧ nx ≤ nx' ∧ (∀ x, x < nx → o'.get x = o.get x) ∧ LEnv L oa len av i e' ∧ e'.get 206 = some (.slice (slA jsl) all.length 0) ∧ e'.get 207 = some (.int .i64 (.ofNat all.length)) ∧ e'.get 208 = some (.int .i64 (.ofNat d.length))) ?_ all.length _ _ _ ⟨[], all, _, _, _, rfl, rfl, rfl, by omega, hold2, ⟨?_, ?_, ?_, ?_, ?_, ?_, ?_⟩, ?_, ?_, ?_⟩ (by omega)
    rotate_left
    · simp only [qC, qD, qE, qF, Tr.get_nil, ne_eq, not_false_eq_true, Nat.reduceEqDiff]; exact E2.g1
    · simp only [qC, qD, qE, qF, Tr.get_nil, ne_eq, not_false_eq_true, Nat.reduceEqDiff]; exact E2.g5
    · simp only [qC, qD, qE, qF, Tr.get_nil, ne_eq, not_false_eq_true, Nat.reduceEqDiff]; exact E2.g10
    · simp only [qC, qD, qE, qF, Tr.get_nil, ne_eq, not_false_eq_true, Nat.reduceEqDiff]; exact E2.g11
    · simp only [qC, qD, qE, qF, Tr.get_nil, ne_eq, not_false_eq_true, Nat.reduceEqDiff]; exact E2.g13
    · simp only [qC, qD, qE, qF, Tr.get_nil, ne_eq, not_false_eq_true, Nat.reduceEqDiff]; exact E2.g14
    · simp only [qC, qD, qE, qF, Tr.get_nil, ne_eq, not_false_eq_true, Nat.reduceEqDiff]; exact E2.g15
    · simp only [qC, qD, qE, qF, Tr.get_nil, ne_eq, not_false_eq_true, Nat.reduceEqDiff]
    · simp only [qC, qD, qE, qF, Tr.get_nil, ne_eq, not_false_eq_true, Nat.reduceEqDiff]
    · simp only [qC, qD, qE, qF, Tr.get_nil, ne_eq, not_false_eq_true, Nat.reduceEqDiff]; rfl
    rintro q e3 H3 ⟨d, r1, o3, nx3, lg3, hdr, hq, rfl, hn3, hold, E3, g206, g207, g208⟩
    have hdl : d.length + r1.length = all.length := by rw [hdr, List.length_append]
    cases r1 with
    | nil =>
      have hlt : decide (d.length < all.length) = false := decide_eq_false (by rw [← hdl]; simp)
      repeat (first | with_reducible (first | refine n_on ?_ | refine n_seq ?_ | refine s_else ?_ | refine n_t ?_ | refine n_gt ?_ | refine d_t ?_ | refine n_nil ?_ | refine d_nil ?_ | refine n_block ?_ | refine n_skip ?_ | refine n_bon ?_ | refine n_bback ?_ | refine n_back ?_ | refine n_out ?_ | refine n_bout rfl ?_ | refine n_bfar rfl ?_ | refine n_ret ?_ | refine n_exit ?_ | refine n_label ?_ | refine n_scope ?_ | refine n_son ?_ | refine n_sback ?_) | (with_reducible (first | apply n_region | apply d_region); (simp only [JV, JU, JW, Nat.reduceAdd, Nat.zero_add]; exact rfl)) | (with_reducible (first | apply s_op | apply n_guard | apply n_cond | apply d_guard | apply d_op | apply n_fin | apply n_finb); (simp (maxDischargeDepth := 6) only [sy3.1, zY, qG, qP, qQ, qR, qS, qT, rowAt, ↓jg, ↓ji, Nat.reduceAdd, Nat.reduceEqDiff, ne_eq, jG, Nat.reduceLT, if_true, ite_true, Int.reduceLE, Int.reduceLT, Int.reduceEq, Int.reduceNeg, Int.reduceAdd, Nat.reduceSub, if_false, ite_false, fs_4.1, g207, g208, hlt, kind_pure, kind_load, kind_fresh, kind_other, jg, ji, undef]; first | exact rfl | exact ⟨rfl, rfl, rfl, rfl⟩); try (with_reducible refine calmK_in ?_; decide +kernel)))
      refine ⟨_, _, rfl, _, _, _, _, _, _, _, _, _, _, _, _, _, rfl, M.more (by omega) hold, R, hR, hal, hnl, ⟨?_, ?_, ?_, ?_, ?_, ?_, ?_⟩⟩ <;> simp only [qC, qD, qE, qF, Tr.get_nil, ne_eq, not_false_eq_true, Nat.reduceEqDiff] <;> first | exact E3.g1 | exact E3.g5 | exact E3.g10 | exact E3.g11 | exact E3.g13 | exact E3.g14 | exact E3.g15
    | cons m r1 =>
      simp only [List.length_cons] at hdl hq
      have hlt : decide (d.length < all.length) = true := decide_eq_true (by omega)
      obtain ⟨bj, hav3, hjlt, hjw, hjne, hrow⟩ := M.mds.at (by rw [hdr]; simp)
      have hsl : slA jsl = some ⟨bj, 0, none⟩ := by rw [hav] at hav3; exact (Value.slice.inj hav3).1
      rw [hsl] at g206
      have g5 := E3.g5
      rw [← M.hB] at g5
      have hrow3 := (hold _ hjlt).trans hrow
      have hcut : cut (mdCells all) (d.length * 5) 5 = some (mdCell m) := by rw [hdr]; exact md_cut d m r1 rfl
      have hb3 : bj < nx3 := by omega
      have l1 : Nat.blt d.length all.length = true := by rw [Nat.blt_eq]; omega
      have n0 : decide (Int.ofNat d.length < 0) = false := decide_eq_false (by simp only [Int.ofNat_eq_natCast]; omega)
      have n1 : decide (all.length ≤ d.length) = false := decide_eq_false (by omega)
      have hw1 : IntKind.i64.wrap (Int.ofNat d.length + 1) = Int.ofNat (d.length + 1) := by rw [wrap_small _ (by simp only [Int.ofNat_eq_natCast]; omega) (by simp only [Int.ofNat_eq_natCast]; omega)]; rfl
      have hnum := fun (o : Tr AObj) (nx : Nat) (lg : List Nat) => num_ok (n := 998) (o := o) (nx := nx) (lg := lg) hO m.num
      obtain ⟨hu, hul⟩ := R.up (m := m) (by rw [hdr]; simp)
      have hup := fun (O1 : Tr AObj) (N1 : Nat) (L1 : List Nat) (hN : nx ≤ N1) (ho : ∀ x, x < nx → O1.get x = o.get x) => fup_ok (n := 993) (o := O1) (nx := N1) (lg := L1) (cl := m.fn.2) (a0 := .int .u8 0) (a1 := .int .i64 0) (a3 := .int .i64 0) (a4 := .slice none 0 0) (a5 := .slice none 0 0) (a6 := .slice none 0 0) (a7 := .slice none 0 0) (a8 := .int .i64 0) (a9 := .slice none 0 0) (a10 := .bool false) (a11 := .int .i64 0) hO (M.heap.more hN ho) 0 hul
      rw [hu] at hup
      repeat (first | with_reducible (first | refine n_on ?_ | refine n_seq ?_ | refine s_else ?_ | refine n_t ?_ | refine n_gt ?_ | refine d_t ?_ | refine n_nil ?_ | refine d_nil ?_ | refine n_block ?_ | refine n_skip ?_ | refine n_bon ?_ | refine n_bback ?_ | refine n_back ?_ | refine n_out ?_ | refine n_bout rfl ?_ | refine n_bfar rfl ?_ | refine n_ret ?_ | refine n_exit ?_ | refine n_label ?_ | refine n_scope ?_ | refine n_son ?_ | refine n_sback ?_) | (with_reducible (first | apply n_region | apply d_region); (simp only [JV, JU, JW, Nat.reduceAdd, Nat.zero_add]; exact rfl)) | (with_reducible (first | apply s_op | apply n_guard | apply n_cond | apply d_guard | apply d_op | apply n_fin | apply n_finb); (simp (maxDischargeDepth := 6) only [sy3.1, zY, qG, qP, qQ, qR, qS, qT, rowAt, ↓jg, ↓ji, Nat.reduceAdd, Nat.reduceEqDiff, ne_eq, jG, Nat.reduceLT, if_true, ite_true, Int.reduceLE, Int.reduceLT, Int.reduceEq, Int.reduceNeg, Int.reduceAdd, Nat.reduceSub, if_false, ite_false, fs_4.1, g206, g207, g208, hlt, g5, hrow3, hb3, hcut, mdCell, l1, n0, n1, hw1, hnum, vv_ne_same, vv, Ji, cut_twelve, indexAt, Option.isNone_none, Nat.zero_mul, Nat.one_mul, Nat.mul_one, kind_pure, kind_load, kind_fresh, kind_other, jg, ji, undef]; first | exact rfl | exact ⟨rfl, rfl, rfl, rfl⟩); try (with_reducible refine calmK_in ?_; decide +kernel)))
      refine d_do _ 2 (by
          simp (maxDischargeDepth := 6) only [sy3.1, zY, qG, qP, qQ, qR, qS, qT, rowAt, ↓jg, ↓ji, Nat.reduceAdd, Nat.reduceEqDiff, ne_eq, jG, Nat.reduceLT, if_true, ite_true, Int.reduceLE, Int.reduceLT, Int.reduceEq, Int.reduceNeg, Int.reduceAdd, Nat.reduceSub, if_false, ite_false, fs_4.1]
          exact got_eq (hup _ _ _ (by omega) fun x hx => by (repeat (first | rw [qE] | rw [qF _ _ _ _ (by omega)])); exact hold x hx)) (by
            rintro _ rfl
            show cond (List.isEmpty ([] : List Nat)) (cond (Nat.beq _ _ && true) 2 3) 4 = 2
            rw [Nat.beq_refl]; rfl) (by decide +kernel) ?_
      rintro _ _ _ _ heq cl1
      cases heq
      repeat (first | with_reducible (first | refine n_on ?_ | refine n_seq ?_ | refine s_else ?_ | refine n_t ?_ | refine n_gt ?_ | refine d_t ?_ | refine n_nil ?_ | refine d_nil ?_ | refine n_block ?_ | refine n_skip ?_ | refine n_bon ?_ | refine n_bback ?_ | refine n_back ?_ | refine n_out ?_ | refine n_bout rfl ?_ | refine n_bfar rfl ?_ | refine n_ret ?_ | refine n_exit ?_ | refine n_label ?_ | refine n_scope ?_ | refine n_son ?_ | refine n_sback ?_) | (with_reducible (first | apply n_region | apply d_region); (simp only [JV, JU, JW, Nat.reduceAdd, Nat.zero_add]; exact rfl)) | (with_reducible (first | apply s_op | apply n_guard | apply n_cond | apply d_guard | apply d_op | apply n_fin | apply n_finb); (simp (maxDischargeDepth := 6) only [sy3.1, zY, qG, qP, qQ, qR, qS, qT, rowAt, ↓jg, ↓ji, Nat.reduceAdd, Nat.reduceEqDiff, ne_eq, jG, Nat.reduceLT, if_true, ite_true, Int.reduceLE, Int.reduceLT, Int.reduceEq, Int.reduceNeg, Int.reduceAdd, Nat.reduceSub, if_false, ite_false, fs_4.1, g206, g207, g208, hlt, g5, hrow3, hb3, hcut, mdCell, l1, n0, n1, hw1, hnum, vv_ne_same, vv, Ji, cut_twelve, indexAt, Option.isNone_none, Nat.zero_mul, Nat.one_mul, Nat.mul_one, kind_pure, kind_load, kind_fresh, kind_other, jg, ji, undef]; first | exact rfl | exact ⟨rfl, rfl, rfl, rfl⟩); try (with_reducible refine calmK_in ?_; decide +kernel)))
      refine ⟨r1.length, by omega, d ++ [m], r1, _, _, _, by rw [hdr, List.append_assoc]; rfl, rfl, rfl, by omega, fun x hx => by (repeat (first | rw [qE] | rw [qF _ _ _ _ (by omega)])); exact hold x hx, ⟨?_, ?_, ?_, ?_, ?_, ?_, ?_⟩, ?_, ?_, ?_⟩ <;> simp only [qC, qD, qE, qF, Tr.get_nil, ne_eq, not_false_eq_true, Nat.reduceEqDiff] <;> first | exact E3.g1 | exact E3.g5 | exact E3.g10 | exact E3.g11 | exact E3.g13 | exact E3.g14 | exact E3.g15 | (rw [hsl]; exact g206) | exact g207 | (rw [List.length_append]; rfl)
end Go.Proofs.Ytckahbnkdiamjaa
