/- Frame: the law's round that makes a variable anew. -/
import Derived.Test.YtckahbnkdiamjaaFrLaw1
namespace Go.Proofs.Ytckahbnkdiamjaa
open Go.RowKit
set_option linter.unusedSimpArgs false
set_option linter.unusedVariables false
set_option maxRecDepth 100000

set_option maxHeartbeats 32000000 in
theorem law_c2 {z : List Value} {bx : List Bool} {L : LB} {oa : Option Addr} {len i k : Nat} {e : Tr Value} {H : AHeap} (h : LawSt z bx L oa len i i e H) (hi : i < 60) (hk : k < 5) (g16 : e.get 16 = some (.int .i64 (.ofNat k))) (g17 : e.get 17 = some (.int .i64 (.ofNat (i + 1)))) :
    Got (rCode Try.prog (oCall Try.prog [] O18 999) 999 (frC2 Try.f4) e H) fun s => ∃ e' H', s = (Way.on, e', H') ∧ LawSt z bx L oa len i (i + 1) e' H' := by
  have hO := clear18
  obtain ⟨o, nx, lg, w, B, hs, sa, c, sv, now, av, all, ups, rfl, M, R, hR, hal, hnl, E⟩ := h
  have g1 := E.g1; have g5 := E.g5; have g10 := E.g10; have g11 := E.g11; have g13 := E.g13; have g14 := E.g14; have g15 := E.g15
  rw [← M.hB] at g5
  have hnum := fun (o : Tr AObj) (nx : Nat) (lg : List Nat) => num_ok (n := 998) (o := o) (nx := nx) (lg := lg) hO (Int.ofNat (i + 1))
  have hprg := M.prg
  have hltt := M.ltt
  have d0 : decide (Int.ofNat k < 0) = false := decide_eq_false (by simp only [Int.ofNat_eq_natCast]; omega)
  have d5 : decide (5 ≤ k) = false := decide_eq_false (by omega)
  have l5 : Nat.blt k 5 = true := by rw [Nat.blt_eq]; exact hk
  refine n_seq ?_
  repeat (first | with_reducible (first | refine n_on ?_ | refine n_seq ?_ | refine s_else ?_ | refine n_t ?_ | refine n_gt ?_ | refine d_t ?_ | refine n_nil ?_ | refine d_nil ?_ | refine n_block ?_ | refine n_skip ?_ | refine n_bon ?_ | refine n_bback ?_ | refine n_back ?_ | refine n_out ?_ | refine n_bout rfl ?_ | refine n_bfar rfl ?_ | refine n_ret ?_ | refine n_exit ?_ | refine n_label ?_ | refine n_scope ?_ | refine n_son ?_ | refine n_sback ?_) | (with_reducible (first | apply n_region | apply d_region); (simp only [JV, JU, JW, Nat.reduceAdd, Nat.zero_add]; exact rfl)) | (with_reducible (first | apply s_op | apply n_guard | apply n_cond | apply d_guard | apply d_op | apply n_fin | apply n_finb); (simp (maxDischargeDepth := 6) only [sy3.1, zY, qG, qP, qQ, qR, qS, qT, rowAt, ↓jg, ↓ji, Nat.reduceAdd, Nat.reduceEqDiff, ne_eq, jG, Nat.reduceLT, if_true, ite_true, Int.reduceLE, Int.reduceLT, Int.reduceEq, Int.reduceNeg, Int.reduceAdd, Nat.reduceSub, if_false, ite_false, fs_4.1, g1, g5, g10, g11, g13, g14, g15, g16, g17, hprg, hltt, hnum, vv, kind_pure, kind_load, kind_fresh, kind_other, jg, ji, undef]; first | exact rfl | exact ⟨rfl, rfl, rfl, rfl⟩); try (with_reducible refine calmK_in ?_; decide +kernel)))
  refine d_do (ActTo bx L o (nx + 7) w sa (now.set k (.ofNat (i + 1))) (all.map (frM (.ofNat k))) i) 4 (by
    simp (maxDischargeDepth := 6) only [sy3.1, zY, qG, qP, qQ, qR, qS, qT, rowAt, ↓jg, ↓ji, Nat.reduceAdd, Nat.reduceEqDiff, ne_eq, jG, Nat.reduceLT, if_true, ite_true, Int.reduceLE, Int.reduceLT, Int.reduceEq, Int.reduceNeg, Int.reduceAdd, Nat.reduceSub, if_false, ite_false, fs_4.1, g1, g5, g10, g11, g13, g14, g15, g16, g17, hprg, hltt, hnum, vv]
    exact act_fresh hO M R hR hi hk (by omega)) (fun r hr => act_loud hr) (by decide +kernel) ?_
  rintro v1 o2 nx2 l2 ⟨_, _, _, w2, B2, hs2, sa2, c2, sv2, heq, b1, b2, b3, b4, b5, b6, b7, _, S1, S2⟩ cl1
  cases heq
  have M2 := M.act (by omega) b1 b2 b3 b4 b5 b6 b7
  have hnow := M2.now
  have hltn := M2.ltn
  have hkl : k < (now.map (Value.int .i64)).length := by rw [List.length_map, R.ln]; exact hk
  obtain ⟨jsl, hav⟩ := M2.mds.slice
  rw [hav] at g14
  repeat (first | with_reducible (first | refine n_on ?_ | refine n_seq ?_ | refine s_else ?_ | refine n_t ?_ | refine n_gt ?_ | refine d_t ?_ | refine n_nil ?_ | refine d_nil ?_ | refine n_block ?_ | refine n_skip ?_ | refine n_bon ?_ | refine n_bback ?_ | refine n_back ?_ | refine n_out ?_ | refine n_bout rfl ?_ | refine n_bfar rfl ?_ | refine n_ret ?_ | refine n_exit ?_ | refine n_label ?_ | refine n_scope ?_ | refine n_son ?_ | refine n_sback ?_) | (with_reducible (first | apply n_region | apply d_region); (simp only [JV, JU, JW, Nat.reduceAdd, Nat.zero_add]; exact rfl)) | (with_reducible (first | apply s_op | apply n_guard | apply n_cond | apply d_guard | apply d_op | apply n_fin | apply n_finb); (simp (maxDischargeDepth := 6) only [sy3.1, zY, qG, qP, qQ, qR, qS, qT, rowAt, ↓jg, ↓ji, Nat.reduceAdd, Nat.reduceEqDiff, ne_eq, jG, Nat.reduceLT, if_true, ite_true, Int.reduceLE, Int.reduceLT, Int.reduceEq, Int.reduceNeg, Int.reduceAdd, Nat.reduceSub, if_false, ite_false, fs_4.1, g1, g10, g11, g13, g14, g15, g16, g17, hnow, hltn, d0, d5, l5, if_pos hkl, indexAt, Option.isNone_none, Nat.zero_mul, Nat.mul_one, kind_pure, kind_load, kind_fresh, kind_other, jg, ji, undef]; first | exact rfl | exact ⟨rfl, rfl, rfl, rfl⟩); try (with_reducible refine calmK_in ?_; decide +kernel)))
  rw [y_loop_eq]
  refine y_loop (I := fun q e' H => ∃ d r o' nx' lg', all = d ++ r ∧ r.length = q ∧ H = (⟨o', nx', lg'⟩ : AHeap) ∧ LawIn z bx L o' nx' w2 B2 hs2 sa2 c2 sv2 (now.set k (.ofNat (i + 1))) av (d.map (frM (.ofNat k)) ++ r) ups ∧ LEnv L oa len av i e' ∧ e'.get 16 = some (.int .i64 (.ofNat k)) ∧ e'.get 17 = some (.int .i64 (.ofNat (i + 1))) ∧ e'.get 163 = some (.int .i64 (.ofNat all.length)) ∧ e'.get 164 = some (.int .i64 (.ofNat d.length))) ?_ all.length _ _ _ ⟨[], all, _, _, _, rfl, rfl, rfl, M2.nowSet (by omega) ?_ (fun x hx hne => by (repeat (first | rw [qE] | rw [qF _ _ _ _ (by omega)]))), ⟨?_, ?_, ?_, ?_, ?_, ?_, ?_⟩, ?_, ?_, ?_, ?_⟩ (by omega)
  rotate_left
  · rw [qE, List.map_set]
  · simp only [qC, qD, qE, qF, Tr.get_nil, ne_eq, not_false_eq_true, Nat.reduceEqDiff, g1]
  · simp only [qC, qD, qE, qF, Tr.get_nil, ne_eq, not_false_eq_true, Nat.reduceEqDiff]; rw [← M.hB]; exact g5
  · simp only [qC, qD, qE, qF, Tr.get_nil, ne_eq, not_false_eq_true, Nat.reduceEqDiff, g10]
  · simp only [qC, qD, qE, qF, Tr.get_nil, ne_eq, not_false_eq_true, Nat.reduceEqDiff, g11]
  · simp only [qC, qD, qE, qF, Tr.get_nil, ne_eq, not_false_eq_true, Nat.reduceEqDiff, g13]
  · simp only [qC, qD, qE, qF, Tr.get_nil, ne_eq, not_false_eq_true, Nat.reduceEqDiff, g14, hav]
  · simp only [qC, qD, qE, qF, Tr.get_nil, ne_eq, not_false_eq_true, Nat.reduceEqDiff, g15]
  · simp only [qC, qD, qE, qF, Tr.get_nil, ne_eq, not_false_eq_true, Nat.reduceEqDiff, g16]
  · simp only [qC, qD, qE, qF, Tr.get_nil, ne_eq, not_false_eq_true, Nat.reduceEqDiff, g17]
  · simp only [qC, qD, qE, qF, Tr.get_nil, ne_eq, not_false_eq_true, Nat.reduceEqDiff]
  · simp only [qC, qD, qE, qF, Tr.get_nil, ne_eq, not_false_eq_true, Nat.reduceEqDiff]; rfl
  clear M2 hnow hltn g1 g5 g10 g11 g13 g14 g15 g16 g17 M
  rintro q e3 H3 ⟨d, r, o3, nx3, lg3, hdr, hq, rfl, M3, E3, g16, g17, g163, g164⟩
  have hdl : d.length + r.length = all.length := by rw [hdr, List.length_append]
  have g1 := E3.g1; have g5 := E3.g5; have g10 := E3.g10; have g11 := E3.g11; have g13 := E3.g13; have g14 := E3.g14; have g15 := E3.g15
  cases r with
  | nil =>
    have hlt : decide (d.length < all.length) = false := decide_eq_false (by rw [← hdl]; simp)
    repeat (first | with_reducible (first | refine n_on ?_ | refine n_seq ?_ | refine s_else ?_ | refine n_t ?_ | refine n_gt ?_ | refine d_t ?_ | refine n_nil ?_ | refine d_nil ?_ | refine n_block ?_ | refine n_skip ?_ | refine n_bon ?_ | refine n_bback ?_ | refine n_back ?_ | refine n_out ?_ | refine n_bout rfl ?_ | refine n_bfar rfl ?_ | refine n_ret ?_ | refine n_exit ?_ | refine n_label ?_ | refine n_scope ?_ | refine n_son ?_ | refine n_sback ?_) | (with_reducible (first | apply n_region | apply d_region); (simp only [JV, JU, JW, Nat.reduceAdd, Nat.zero_add]; exact rfl)) | (with_reducible (first | apply s_op | apply n_guard | apply n_cond | apply d_guard | apply d_op | apply n_fin | apply n_finb); (simp (maxDischargeDepth := 6) only [sy3.1, zY, qG, qP, qQ, qR, qS, qT, rowAt, ↓jg, ↓ji, Nat.reduceAdd, Nat.reduceEqDiff, ne_eq, jG, Nat.reduceLT, if_true, ite_true, Int.reduceLE, Int.reduceLT, Int.reduceEq, Int.reduceNeg, Int.reduceAdd, Nat.reduceSub, if_false, ite_false, fs_4.1, g163, g164, hlt, kind_pure, kind_load, kind_fresh, kind_other, jg, ji, undef]; first | exact rfl | exact ⟨rfl, rfl, rfl, rfl⟩); try (with_reducible refine calmK_in ?_; decide +kernel)))
    rw [List.append_nil] at M3 hdr
    subst hdr
    refine ⟨_, _, rfl, _, _, _, _, _, _, _, _, _, _, _, _, _, rfl, M3.more (by omega) fun _ _ => rfl, S1, S2, by rw [List.length_map]; omega, fun j hj => ?_, ⟨?_, ?_, ?_, ?_, ?_, ?_, ?_⟩⟩
    · rw [getD_setI _ _ _ _ _ (by rw [R.ln]; exact hk)]
      split
      · simp
      · have := hnl j hj; omega
    all_goals simp only [qC, qD, qE, qF, Tr.get_nil, ne_eq, not_false_eq_true, Nat.reduceEqDiff]; assumption
  | cons m r =>
    simp only [List.length_cons] at hdl hq
    have hlt : decide (d.length < all.length) = true := decide_eq_true (by omega)
    have hdm : (d.map (frM (.ofNat k))).length = d.length := List.length_map _
    obtain ⟨bj, hav3, hjlt, hjw, hjne, hrow⟩ := M3.mds.at (by simp)
    rw [hav3] at g14
    have hal2 : (d.map (frM (.ofNat k)) ++ m :: r).length = all.length := by rw [List.length_append, hdm, List.length_cons]; omega
    rw [hal2] at g14
    have t2 := md_at _ m r hdm 2 (by decide)
    have t4 := md_at _ m r hdm 4 (by decide)
    have l1 : Nat.blt d.length all.length = true := by rw [Nat.blt_eq]; omega
    have n0 : decide (Int.ofNat d.length < 0) = false := decide_eq_false (by simp only [Int.ofNat_eq_natCast]; omega)
    have n1 : decide (all.length ≤ d.length) = false := decide_eq_false (by omega)
    have hw1 : IntKind.i64.wrap (Int.ofNat d.length + 1) = Int.ofNat (d.length + 1) := by rw [wrap_small _ (by simp only [Int.ofNat_eq_natCast]; omega) (by simp only [Int.ofNat_eq_natCast]; omega)]; rfl
    have hl4 : d.length * 5 + 4 < (mdCells (d.map (frM (.ofNat k)) ++ m :: r)).length := by rw [md_len, hal2]; omega
    have hset := fun b => md_put (d.map (frM (.ofNat k))) m r hdm 4 (by decide) (.bool b) { m with old := b } rfl
    cases hsl : decide (m.slot = Int.ofNat k) with
    | false =>
      cases hold : m.old with
      | true =>
        repeat (first | with_reducible (first | refine n_on ?_ | refine n_seq ?_ | refine s_else ?_ | refine n_t ?_ | refine n_gt ?_ | refine d_t ?_ | refine n_nil ?_ | refine d_nil ?_ | refine n_block ?_ | refine n_skip ?_ | refine n_bon ?_ | refine n_bback ?_ | refine n_back ?_ | refine n_out ?_ | refine n_bout rfl ?_ | refine n_bfar rfl ?_ | refine n_ret ?_ | refine n_exit ?_ | refine n_label ?_ | refine n_scope ?_ | refine n_son ?_ | refine n_sback ?_) | (with_reducible (first | apply n_region | apply d_region); (simp only [JV, JU, JW, Nat.reduceAdd, Nat.zero_add]; exact rfl)) | (with_reducible (first | apply s_op | apply n_guard | apply n_cond | apply d_guard | apply d_op | apply n_fin | apply n_finb); (simp (maxDischargeDepth := 6) only [sy3.1, zY, qG, qP, qQ, qR, qS, qT, rowAt, ↓jg, ↓ji, Nat.reduceAdd, Nat.reduceEqDiff, ne_eq, jG, Nat.reduceLT, if_true, ite_true, Int.reduceLE, Int.reduceLT, Int.reduceEq, Int.reduceNeg, Int.reduceAdd, Nat.reduceSub, if_false, ite_false, fs_4.1, g163, g164, hlt, g14, g16, g17, hrow, hjlt, t2, t4, l1, n0, n1, hw1, mdCell, indexAt, Option.isNone_none, Nat.zero_mul, Nat.mul_one, hsl, hold, hset, if_pos hl4, kind_pure, kind_load, kind_fresh, kind_other, jg, ji, undef]; first | exact rfl | exact ⟨rfl, rfl, rfl, rfl⟩); try (with_reducible refine calmK_in ?_; decide +kernel)))
        refine ⟨r.length, by omega, d ++ [m], r, _, _, _, by rw [hdr, List.append_assoc]; rfl, rfl, rfl, M3.mdSet (by omega) hjlt hjw hjne (qE _ _ _) ?_ (fun x hx hne => by (repeat (first | rw [qE] | rw [qF _ _ _ _ (by omega)]))) |>.asMd ?_, ⟨?_, ?_, ?_, ?_, ?_, ?_, ?_⟩, ?_, ?_, ?_, ?_⟩
        · rw [hav3]; simp only [List.length_append, List.length_cons]
        · rw [List.map_append, List.map_cons, List.map_nil, List.append_assoc]
          have : frM (.ofNat k) m = { m with old := m.old || decide (m.slot = Int.ofNat k) } := rfl
          rw [this, hsl, hold]; rfl
        all_goals simp only [qC, qD, qE, qF, Tr.get_nil, ne_eq, not_false_eq_true, Nat.reduceEqDiff] <;> first | exact E3.g1 | exact E3.g5 | exact E3.g10 | exact E3.g11 | exact E3.g13 | exact E3.g14 | exact E3.g15 | exact g16 | exact g17 | exact g163 | (rw [List.length_append]; rfl)
      | false =>
        repeat (first | with_reducible (first | refine n_on ?_ | refine n_seq ?_ | refine s_else ?_ | refine n_t ?_ | refine n_gt ?_ | refine d_t ?_ | refine n_nil ?_ | refine d_nil ?_ | refine n_block ?_ | refine n_skip ?_ | refine n_bon ?_ | refine n_bback ?_ | refine n_back ?_ | refine n_out ?_ | refine n_bout rfl ?_ | refine n_bfar rfl ?_ | refine n_ret ?_ | refine n_exit ?_ | refine n_label ?_ | refine n_scope ?_ | refine n_son ?_ | refine n_sback ?_) | (with_reducible (first | apply n_region | apply d_region); (simp only [JV, JU, JW, Nat.reduceAdd, Nat.zero_add]; exact rfl)) | (with_reducible (first | apply s_op | apply n_guard | apply n_cond | apply d_guard | apply d_op | apply n_fin | apply n_finb); (simp (maxDischargeDepth := 6) only [sy3.1, zY, qG, qP, qQ, qR, qS, qT, rowAt, ↓jg, ↓ji, Nat.reduceAdd, Nat.reduceEqDiff, ne_eq, jG, Nat.reduceLT, if_true, ite_true, Int.reduceLE, Int.reduceLT, Int.reduceEq, Int.reduceNeg, Int.reduceAdd, Nat.reduceSub, if_false, ite_false, fs_4.1, g163, g164, hlt, g14, g16, g17, hrow, hjlt, t2, t4, l1, n0, n1, hw1, mdCell, indexAt, Option.isNone_none, Nat.zero_mul, Nat.mul_one, hsl, hold, hset, if_pos hl4, kind_pure, kind_load, kind_fresh, kind_other, jg, ji, undef]; first | exact rfl | exact ⟨rfl, rfl, rfl, rfl⟩); try (with_reducible refine calmK_in ?_; decide +kernel)))
        refine ⟨r.length, by omega, d ++ [m], r, _, _, _, by rw [hdr, List.append_assoc]; rfl, rfl, rfl, M3.mdSet (by omega) hjlt hjw hjne (qE _ _ _) ?_ (fun x hx hne => by (repeat (first | rw [qE] | rw [qF _ _ _ _ (by omega)]))) |>.asMd ?_, ⟨?_, ?_, ?_, ?_, ?_, ?_, ?_⟩, ?_, ?_, ?_, ?_⟩
        · rw [hav3]; simp only [List.length_append, List.length_cons]
        · rw [List.map_append, List.map_cons, List.map_nil, List.append_assoc]
          have : frM (.ofNat k) m = { m with old := m.old || decide (m.slot = Int.ofNat k) } := rfl
          rw [this, hsl, hold]; rfl
        all_goals simp only [qC, qD, qE, qF, Tr.get_nil, ne_eq, not_false_eq_true, Nat.reduceEqDiff] <;> first | exact E3.g1 | exact E3.g5 | exact E3.g10 | exact E3.g11 | exact E3.g13 | exact E3.g14 | exact E3.g15 | exact g16 | exact g17 | exact g163 | (rw [List.length_append]; rfl)
    | true =>
      cases hold : m.old with
      | true =>
        repeat (first | with_reducible (first | refine n_on ?_ | refine n_seq ?_ | refine s_else ?_ | refine n_t ?_ | refine n_gt ?_ | refine d_t ?_ | refine n_nil ?_ | refine d_nil ?_ | refine n_block ?_ | refine n_skip ?_ | refine n_bon ?_ | refine n_bback ?_ | refine n_back ?_ | refine n_out ?_ | refine n_bout rfl ?_ | refine n_bfar rfl ?_ | refine n_ret ?_ | refine n_exit ?_ | refine n_label ?_ | refine n_scope ?_ | refine n_son ?_ | refine n_sback ?_) | (with_reducible (first | apply n_region | apply d_region); (simp only [JV, JU, JW, Nat.reduceAdd, Nat.zero_add]; exact rfl)) | (with_reducible (first | apply s_op | apply n_guard | apply n_cond | apply d_guard | apply d_op | apply n_fin | apply n_finb); (simp (maxDischargeDepth := 6) only [sy3.1, zY, qG, qP, qQ, qR, qS, qT, rowAt, ↓jg, ↓ji, Nat.reduceAdd, Nat.reduceEqDiff, ne_eq, jG, Nat.reduceLT, if_true, ite_true, Int.reduceLE, Int.reduceLT, Int.reduceEq, Int.reduceNeg, Int.reduceAdd, Nat.reduceSub, if_false, ite_false, fs_4.1, g163, g164, hlt, g14, g16, g17, hrow, hjlt, t2, t4, l1, n0, n1, hw1, mdCell, indexAt, Option.isNone_none, Nat.zero_mul, Nat.mul_one, hsl, hold, hset, if_pos hl4, kind_pure, kind_load, kind_fresh, kind_other, jg, ji, undef]; first | exact rfl | exact ⟨rfl, rfl, rfl, rfl⟩); try (with_reducible refine calmK_in ?_; decide +kernel)))
        refine ⟨r.length, by omega, d ++ [m], r, _, _, _, by rw [hdr, List.append_assoc]; rfl, rfl, rfl, M3.mdSet (by omega) hjlt hjw hjne (qE _ _ _) ?_ (fun x hx hne => by (repeat (first | rw [qE] | rw [qF _ _ _ _ (by omega)]))) |>.asMd ?_, ⟨?_, ?_, ?_, ?_, ?_, ?_, ?_⟩, ?_, ?_, ?_, ?_⟩
        · rw [hav3]; simp only [List.length_append, List.length_cons]
        · rw [List.map_append, List.map_cons, List.map_nil, List.append_assoc]
          have : frM (.ofNat k) m = { m with old := m.old || decide (m.slot = Int.ofNat k) } := rfl
          rw [this, hsl, hold]; rfl
        all_goals simp only [qC, qD, qE, qF, Tr.get_nil, ne_eq, not_false_eq_true, Nat.reduceEqDiff] <;> first | exact E3.g1 | exact E3.g5 | exact E3.g10 | exact E3.g11 | exact E3.g13 | exact E3.g14 | exact E3.g15 | exact g16 | exact g17 | exact g163 | (rw [List.length_append]; rfl)
      | false =>
        repeat (first | with_reducible (first | refine n_on ?_ | refine n_seq ?_ | refine s_else ?_ | refine n_t ?_ | refine n_gt ?_ | refine d_t ?_ | refine n_nil ?_ | refine d_nil ?_ | refine n_block ?_ | refine n_skip ?_ | refine n_bon ?_ | refine n_bback ?_ | refine n_back ?_ | refine n_out ?_ | refine n_bout rfl ?_ | refine n_bfar rfl ?_ | refine n_ret ?_ | refine n_exit ?_ | refine n_label ?_ | refine n_scope ?_ | refine n_son ?_ | refine n_sback ?_) | (with_reducible (first | apply n_region | apply d_region); (simp only [JV, JU, JW, Nat.reduceAdd, Nat.zero_add]; exact rfl)) | (with_reducible (first | apply s_op | apply n_guard | apply n_cond | apply d_guard | apply d_op | apply n_fin | apply n_finb); (simp (maxDischargeDepth := 6) only [sy3.1, zY, qG, qP, qQ, qR, qS, qT, rowAt, ↓jg, ↓ji, Nat.reduceAdd, Nat.reduceEqDiff, ne_eq, jG, Nat.reduceLT, if_true, ite_true, Int.reduceLE, Int.reduceLT, Int.reduceEq, Int.reduceNeg, Int.reduceAdd, Nat.reduceSub, if_false, ite_false, fs_4.1, g163, g164, hlt, g14, g16, g17, hrow, hjlt, t2, t4, l1, n0, n1, hw1, mdCell, indexAt, Option.isNone_none, Nat.zero_mul, Nat.mul_one, hsl, hold, hset, if_pos hl4, kind_pure, kind_load, kind_fresh, kind_other, jg, ji, undef]; first | exact rfl | exact ⟨rfl, rfl, rfl, rfl⟩); try (with_reducible refine calmK_in ?_; decide +kernel)))
        refine ⟨r.length, by omega, d ++ [m], r, _, _, _, by rw [hdr, List.append_assoc]; rfl, rfl, rfl, M3.mdSet (by omega) hjlt hjw hjne (qE _ _ _) ?_ (fun x hx hne => by (repeat (first | rw [qE] | rw [qF _ _ _ _ (by omega)]))) |>.asMd ?_, ⟨?_, ?_, ?_, ?_, ?_, ?_, ?_⟩, ?_, ?_, ?_, ?_⟩
        · rw [hav3]; simp only [List.length_append, List.length_cons]
        · rw [List.map_append, List.map_cons, List.map_nil, List.append_assoc]
          have : frM (.ofNat k) m = { m with old := m.old || decide (m.slot = Int.ofNat k) } := rfl
          rw [this, hsl, hold]; rfl
        all_goals simp only [qC, qD, qE, qF, Tr.get_nil, ne_eq, not_false_eq_true, Nat.reduceEqDiff] <;> first | exact E3.g1 | exact E3.g5 | exact E3.g10 | exact E3.g11 | exact E3.g13 | exact E3.g14 | exact E3.g15 | exact g16 | exact g17 | exact g163 | (rw [List.length_append]; rfl)
end Go.Proofs.Ytckahbnkdiamjaa
