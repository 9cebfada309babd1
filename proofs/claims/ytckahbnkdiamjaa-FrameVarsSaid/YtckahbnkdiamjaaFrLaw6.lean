/- FrameVars: the run. -/
import Derived.Test.YtckahbnkdiamjaaFrLaw5
import Derived.Test.YtckahbnkdiamjaaFrBoth
import Derived.Test.YtckahbnkdiamjaaFrEnter
namespace Go.Proofs.Ytckahbnkdiamjaa
open Go.RowKit
set_option linter.unusedSimpArgs false
set_option linter.unusedVariables false
set_option maxRecDepth 100000

theorem awake18_ok {n : Nat} {o : Tr AObj} {nx : Nat} {lg : List Nat} : oCall Try.prog [] O18 (n + 1) 20 [] ⟨o, nx, lg⟩ = some (.bool true, ⟨o, nx, lg⟩) := rfl
theorem room0 : Room hsF ((0 : Nat) : Int) := ⟨by decide +kernel, by decide +kernel, by decide +kernel, by decide +kernel, by decide +kernel⟩
theorem varF0 {bx : List Bool} (h : bx.length = 5) : VarF hsF bx [(0, 0), (0, 0), (0, 0), (0, 0), (0, 0)] [0, 0, 0, 0, 0] [] := by
  have z : ∀ k, k < 5 → [(0 : Int), 0, 0, 0, 0].getD k 0 = 0 := fun k hk => by
    rcases k with _ | _ | _ | _ | _ | k <;> first | rfl | omega
  have s : ∀ k, k < 5 → [((0, 0) : VV), (0, 0), (0, 0), (0, 0), (0, 0)].getD k (0, 0) = (0, 0) := fun k hk => by
    rcases k with _ | _ | _ | _ | _ | k <;> first | rfl | omega
  exact ⟨hsF_good, by decide +kernel, h, rfl, rfl, fun k hk _ => by rw [z k hk, s k hk]; rfl, fun k hk _ _ => s k hk, fun k hk _ hn => absurd (z k hk) hn, fun j k hj hk _ _ _ hn => absurd (z j hj) hn, fun m hm => by cases hm⟩
set_option maxHeartbeats 32000000 in
theorem vars_run (a0 : Int) (oa : Option Addr) (zs : List (List Int)) (hzs : ∀ y ∈ zs, y.length = 3) (hoa : 0 < zs.length → oa = some ⟨1, 0, none⟩) (og : Tr AObj) (hgu : og.get 1 = some (.row (intCells [.i64, .i64, .i64] zs) 0 1 false)) :
    Got (oCall Try.prog [] O18 1000 4 [.int .i64 a0, .slice oa zs.length 0] ⟨og, 2, []⟩) fun x => x.1 = .bool true := by
  have hO := clear18
  rw [y_fn (rs := [.tmp 4]) (hO _ (by decide)) Try.func4 rfl (by kernel_rfl) rfl rfl]
  repeat (first | with_reducible (first | refine n_on ?_ | refine n_seq ?_ | refine s_else ?_ | refine n_t ?_ | refine n_gt ?_ | refine d_t ?_ | refine n_nil ?_ | refine d_nil ?_ | refine n_block ?_ | refine n_skip ?_ | refine n_bon ?_ | refine n_bback ?_ | refine n_back ?_ | refine n_out ?_ | refine n_bout rfl ?_ | refine n_bfar rfl ?_ | refine n_ret ?_ | refine n_exit ?_ | refine n_label ?_ | refine n_scope ?_ | refine n_son ?_ | refine n_sback ?_) | (with_reducible (first | apply n_region | apply d_region); (simp only [JV, JU, JW, Nat.reduceAdd, Nat.zero_add]; exact rfl)) | (with_reducible (first | apply s_op | apply n_guard | apply n_cond | apply d_guard | apply d_op | apply n_fin | apply n_finb); (simp (maxDischargeDepth := 6) only [sy3.1, zY, qG, qP, qQ, qR, qS, qT, rowAt, ↓jg, ↓ji, Nat.reduceAdd, Nat.reduceEqDiff, ne_eq, jG, Nat.reduceLT, if_true, ite_true, Int.reduceLE, Int.reduceLT, Int.reduceEq, Int.reduceNeg, Int.reduceAdd, Nat.reduceSub, if_false, ite_false, fs_4.1, vv, kind_pure, kind_load, kind_fresh, kind_other, jg, ji, undef]; first | exact rfl | exact ⟨rfl, rfl, rfl, rfl⟩); try (with_reducible refine calmK_in ?_; decide +kernel)))
  refine s_do _ (by
    simp (maxDischargeDepth := 6) only [sy3.1, zY, qG, qP, qQ, qR, qS, qT, rowAt, ↓jg, ↓ji, Nat.reduceAdd, Nat.reduceEqDiff, ne_eq, jG, Nat.reduceLT, if_true, ite_true, Int.reduceLE, Int.reduceLT, Int.reduceEq, Int.reduceNeg, Int.reduceAdd, Nat.reduceSub, if_false, ite_false, fs_4.1]
    exact both_ok (n := 989) hO) ?_
  rintro v1 ⟨o1, nx1, lg1⟩ ⟨_, _, _, w1, B, rh, heq, hn1, hH1, hBi, hfr1, hmo1⟩
  cases heq
  repeat (first | with_reducible (first | refine n_on ?_ | refine n_seq ?_ | refine s_else ?_ | refine n_t ?_ | refine n_gt ?_ | refine d_t ?_ | refine n_nil ?_ | refine d_nil ?_ | refine n_block ?_ | refine n_skip ?_ | refine n_bon ?_ | refine n_bback ?_ | refine n_back ?_ | refine n_out ?_ | refine n_bout rfl ?_ | refine n_bfar rfl ?_ | refine n_ret ?_ | refine n_exit ?_ | refine n_label ?_ | refine n_scope ?_ | refine n_son ?_ | refine n_sback ?_) | (with_reducible (first | apply n_region | apply d_region); (simp only [JV, JU, JW, Nat.reduceAdd, Nat.zero_add]; exact rfl)) | (with_reducible (first | apply s_op | apply n_guard | apply n_cond | apply d_guard | apply d_op | apply n_fin | apply n_finb); (simp (maxDischargeDepth := 6) only [sy3.1, zY, qG, qP, qQ, qR, qS, qT, rowAt, ↓jg, ↓ji, Nat.reduceAdd, Nat.reduceEqDiff, ne_eq, jG, Nat.reduceLT, if_true, ite_true, Int.reduceLE, Int.reduceLT, Int.reduceEq, Int.reduceNeg, Int.reduceAdd, Nat.reduceSub, if_false, ite_false, fs_4.1, vv, Ji, kind_pure, kind_load, kind_fresh, kind_other, jg, ji, undef]; first | exact rfl | exact ⟨rfl, rfl, rfl, rfl⟩); try (with_reducible refine calmK_in ?_; decide +kernel)))
  refine s_do _ (by
    simp (maxDischargeDepth := 6) only [sy3.1, zY, qG, qP, qQ, qR, qS, qT, rowAt, ↓jg, ↓ji, Nat.reduceAdd, Nat.reduceEqDiff, ne_eq, jG, Nat.reduceLT, if_true, ite_true, Int.reduceLE, Int.reduceLT, Int.reduceEq, Int.reduceNeg, Int.reduceAdd, Nat.reduceSub, if_false, ite_false, fs_4.1]
    exact fprogram_ok (n := 991) hO a0) ?_
  rintro v2 ⟨o2, nx2, lg2⟩ ⟨_, _, kp, kb, ks, bx, heq, hn2, hP2, hfr2, hk1, hk2, hk3, hk4⟩
  cases heq
  have h9 : o2.get 9 = some (.row [.int .u8 6, .int .i64 2] 41 0 true) := by rw [hfr2 9 (by omega)]; (repeat (first | rw [qE] | rw [qF _ _ _ _ (by omega)]))
  have hw9 : w1 9 = 0 := (hfr1 9 (by omega)).2
  have q1 : (9 : Nat) ≠ nx1 + 8 := by omega
  have q2 := q1.symm
  have q3 : (9 : Nat) < nx2 := by omega
  repeat (first | with_reducible (first | refine n_on ?_ | refine n_seq ?_ | refine s_else ?_ | refine n_t ?_ | refine n_gt ?_ | refine d_t ?_ | refine n_nil ?_ | refine d_nil ?_ | refine n_block ?_ | refine n_skip ?_ | refine n_bon ?_ | refine n_bback ?_ | refine n_back ?_ | refine n_out ?_ | refine n_bout rfl ?_ | refine n_bfar rfl ?_ | refine n_ret ?_ | refine n_exit ?_ | refine n_label ?_ | refine n_scope ?_ | refine n_son ?_ | refine n_sback ?_) | (with_reducible (first | apply n_region | apply d_region); (simp only [JV, JU, JW, Nat.reduceAdd, Nat.zero_add]; exact rfl)) | (with_reducible (first | apply s_op | apply n_guard | apply n_cond | apply d_guard | apply d_op | apply n_fin | apply n_finb); (simp (maxDischargeDepth := 6) only [sy3.1, zY, qG, qP, qQ, qR, qS, qT, rowAt, ↓jg, ↓ji, Nat.reduceAdd, Nat.reduceEqDiff, ne_eq, jG, Nat.reduceLT, if_true, ite_true, Int.reduceLE, Int.reduceLT, Int.reduceEq, Int.reduceNeg, Int.reduceAdd, Nat.reduceSub, if_false, ite_false, fs_4.1, vv, pV, h9, q1, q2, q3, kind_pure, kind_load, kind_fresh, kind_other, jg, ji, undef]; first | exact rfl | exact ⟨rfl, rfl, rfl, rfl⟩); try (with_reducible refine calmK_in ?_; decide +kernel)))
  obtain ⟨O2, hO2⟩ : ∃ O2, O2 = ((o2.put (nx1 + 8) (some (.row [.slice none 0 0, .slice none 0 0] 33 0 true))).put (nx1 + 8) (some (.row [.slice none 0 0, .slice none 0 0] 33 0 true))).put (nx1 + 8) (some (.row [.slice none 0 0, .slice (some ⟨kp, 0, none⟩) 2 3] 33 0 true)) := ⟨_, rfl⟩
  rw [← hO2]
  have hH2 : HeapIn O2 (nx2 + 10) w1 B hsF := hH1.keep (by omega) (fun x hx => by have := hH1.wlt x hx; omega) fun x hx => ⟨by
    have := hH1.wlt x hx
    have : x ≠ 9 := fun e => hx (by rw [e]; exact hw9)
    rw [hO2]
    (repeat (first | rw [qE] | rw [qF _ _ _ _ (by omega)]))
    rw [hfr2 x (by omega)]
    (repeat (first | rw [qE] | rw [qF _ _ _ _ (by omega)])), rfl⟩
  have hP3 : ProgIn O2 (nx2 + 10) kp kb ks bx (.slice none 0 0) := hP2.keep (by omega) (by rw [hO2]; (repeat (first | rw [qE] | rw [qF _ _ _ _ (by omega)]))) (by rw [hO2]; (repeat (first | rw [qE] | rw [qF _ _ _ _ (by omega)])))
  have hg2 : O2.get 1 = some (.row (intCells [.i64, .i64, .i64] zs) 0 1 false) := by
    rw [hO2]
    (repeat (first | rw [qE] | rw [qF _ _ _ _ (by omega)]))
    rw [hfr2 1 (by omega)]
    (repeat (first | rw [qE] | rw [qF _ _ _ _ (by omega)]))
    rw [(hfr1 1 (by omega)).1]
    exact hgu
  have ht2 : O2.get (nx1 + 8) = some (.row [.slice none 0 0, .slice (some ⟨kp, 0, none⟩) 2 3] 33 0 true) := by rw [hO2]; (repeat (first | rw [qE] | rw [qF _ _ _ _ (by omega)]))
  clear hO2
  refine s_do _ (by
    simp (maxDischargeDepth := 6) only [sy3.1, zY, qG, qP, qQ, qR, qS, qT, rowAt, ↓jg, ↓ji, Nat.reduceAdd, Nat.reduceEqDiff, ne_eq, jG, Nat.reduceLT, if_true, ite_true, Int.reduceLE, Int.reduceLT, Int.reduceEq, Int.reduceNeg, Int.reduceAdd, Nat.reduceSub, if_false, ite_false, fs_4.1]
    exact fenter_ok (n := 991) hO hH2 hP3 (6, 2) (by decide +kernel) (by decide +kernel) (by decide +kernel) (by decide +kernel)) ?_
  rintro v3 ⟨o3, nx3, lg3⟩ ⟨_, _, sa, c, heq, hn3, hsa1, hsa2, hsr, hfr3⟩
  cases heq
  have lt1 : nx1 + 8 < nx3 := by omega
  repeat (first | with_reducible (first | refine n_on ?_ | refine n_seq ?_ | refine s_else ?_ | refine n_t ?_ | refine n_gt ?_ | refine d_t ?_ | refine n_nil ?_ | refine d_nil ?_ | refine n_block ?_ | refine n_skip ?_ | refine n_bon ?_ | refine n_bback ?_ | refine n_back ?_ | refine n_out ?_ | refine n_bout rfl ?_ | refine n_bfar rfl ?_ | refine n_ret ?_ | refine n_exit ?_ | refine n_label ?_ | refine n_scope ?_ | refine n_son ?_ | refine n_sback ?_) | (with_reducible (first | apply n_region | apply d_region); (simp only [JV, JU, JW, Nat.reduceAdd, Nat.zero_add]; exact rfl)) | (with_reducible (first | apply s_op | apply n_guard | apply n_cond | apply d_guard | apply d_op | apply n_fin | apply n_finb); (simp (maxDischargeDepth := 6) only [sy3.1, zY, qG, qP, qQ, qR, qS, qT, rowAt, ↓jg, ↓ji, Nat.reduceAdd, Nat.reduceEqDiff, ne_eq, jG, Nat.reduceLT, if_true, ite_true, Int.reduceLE, Int.reduceLT, Int.reduceEq, Int.reduceNeg, Int.reduceAdd, Nat.reduceSub, if_false, ite_false, fs_4.1, frV, kind_pure, kind_load, kind_fresh, kind_other, jg, ji, undef]; first | exact rfl | exact ⟨rfl, rfl, rfl, rfl⟩); try (with_reducible refine calmK_in ?_; decide +kernel)))
  have hw1 : ∀ x, nx1 ≤ x → w1 x = 0 := fun x hx => by
    by_cases e : w1 x = 0
    · exact e
    · have := hH1.wlt x e; omega
  have hP2a := hP2.ltp
  have hP2b := hP2.ltb
  have hP2c := hP2.lts
  rw [y_loop_eq]
  refine y_loop (I := fun q e H => ∃ i, i + q = 60 ∧ LawSt (intCells [.i64, .i64, .i64] zs) bx ⟨B.i, kp, kb, ks, nx2 + 7, nx3 + 2, nx1 + 8⟩ oa zs.length i i e H) ?_ 60 _ _ _ ⟨0, rfl, _, _, _, w1, B, hsF, sa, c, [(0, 0), (0, 0), (0, 0), (0, 0), (0, 0)], [0, 0, 0, 0, 0], .slice none 0 0, [], .slice none 0 0, rfl, ⟨?_, rfl, ?_, ?_, ?_, ?_, ?_, ?_, ?_, ?_, ?_, .inl ⟨rfl, rfl⟩⟩, varF0 hP2.len, room0, Nat.le_refl _, fun k hk => ?_, ⟨?_, ?_, ?_, ?_, ?_, ?_, ?_⟩⟩ (by omega)
  rotate_left
  · exact hH2.keep (by omega) (fun x hx => by have := hH1.wlt x hx; omega) fun x hx => ⟨by
      have := hH1.wlt x hx
      (repeat (first | rw [qE] | rw [qF _ _ _ _ (by omega)]))
      rw [hfr3 x (by omega)], rfl⟩
  · exact hP3.keep (by omega) (by (repeat (first | rw [qE] | rw [qF _ _ _ _ (by omega)])); rw [hfr3 kp (by omega)]) (by (repeat (first | rw [qE] | rw [qF _ _ _ _ (by omega)])); rw [hfr3 kb (by omega)])
  · refine ⟨show nx2 + 7 < _ by omega, by omega, show sa ≠ nx2 + 7 by omega, ⟨0, by show Tr.get _ (nx2 + 7) = _; (repeat (first | rw [qE] | rw [qF _ _ _ _ (by omega)]))⟩, ⟨[], by (repeat (first | rw [qE] | rw [qF _ _ _ _ (by omega)])); rw [hsr, List.append_nil]⟩, rfl, by decide⟩
  · exact ⟨⟨(hfr1 1 (by omega)).2, hw1 kp (by omega), hw1 kb (by omega), hw1 (nx2 + 7) (by omega), hw1 (nx3 + 2) (by omega), hw1 (nx1 + 8) (by omega), hw1 sa (by omega)⟩, by simp only; omega, ⟨hk4.symm, by simp only; omega, by simp only; omega, by simp only; omega, by simp only; omega⟩, by simp only; omega, by simp only; omega, by simp only; omega⟩
  · (repeat (first | rw [qE] | rw [qF _ _ _ _ (by omega)]))
    rw [hfr3 1 (by omega)]
    exact hg2
  · omega
  · show nx3 + 2 < _; omega
  · show nx1 + 8 < _; omega
  · show Tr.get _ (nx3 + 2) = _
    (repeat (first | rw [qE] | rw [qF _ _ _ _ (by omega)])); rfl
  · show Tr.get _ (nx1 + 8) = _
    (repeat (first | rw [qE] | rw [qF _ _ _ _ (by omega)]))
    rw [hfr3 (nx1 + 8) (by omega)]
    exact ht2
  · rcases k with _ | _ | _ | _ | _ | k <;> first | exact Int.le_refl _ | omega
  · simp only [qC, qD, qE, qF, Tr.get_nil, ne_eq, not_false_eq_true, Nat.reduceEqDiff]; rfl
  · simp only [qC, qD, qE, qF, Tr.get_nil, ne_eq, not_false_eq_true, Nat.reduceEqDiff]
  · simp only [qC, qD, qE, qF, Tr.get_nil, ne_eq, not_false_eq_true, Nat.reduceEqDiff]
  · simp only [qC, qD, qE, qF, Tr.get_nil, ne_eq, not_false_eq_true, Nat.reduceEqDiff]
  · simp only [qC, qD, qE, qF, Tr.get_nil, ne_eq, not_false_eq_true, Nat.reduceEqDiff]
  · simp only [qC, qD, qE, qF, Tr.get_nil, ne_eq, not_false_eq_true, Nat.reduceEqDiff]
  · simp only [qC, qD, qE, qF, Tr.get_nil, ne_eq, not_false_eq_true, Nat.reduceEqDiff]; rfl
  rintro q e4 H4 ⟨i, hiq, hst⟩
  have hst' := hst
  obtain ⟨o4, nx4, lg4, w4, B4, hs4, sa4, c4, sv4, now4, av4, all4, ups4, rfl, M, R, hR, hal, hnl, E⟩ := hst'
  have g1 := E.g1
  have g15 := E.g15
  have aw := fun n (o : Tr AObj) nx lg => awake18_ok (n := n) (o := o) (nx := nx) (lg := lg)
  by_cases hin : i < zs.length ∧ i < 60
  · have l1 : decide (i < zs.length) = true := decide_eq_true hin.1
    have l2 : decide (Int.ofNat i < 60) = true := decide_eq_true (by simp only [Int.ofNat_eq_natCast]; omega)
    refine y_cut (I := fun e' H' => LawSt (intCells [.i64, .i64, .i64] zs) bx ⟨B.i, kp, kb, ks, nx2 + 7, nx3 + 2, nx1 + 8⟩ oa zs.length i i e' H') ?_ ?_
    · refine n_seq ?_
      repeat (first | with_reducible (first | refine n_on ?_ | refine n_seq ?_ | refine s_else ?_ | refine n_t ?_ | refine n_gt ?_ | refine d_t ?_ | refine n_nil ?_ | refine d_nil ?_ | refine n_block ?_ | refine n_skip ?_ | refine n_bon ?_ | refine n_bback ?_ | refine n_back ?_ | refine n_out ?_ | refine n_bout rfl ?_ | refine n_bfar rfl ?_ | refine n_ret ?_ | refine n_exit ?_ | refine n_label ?_ | refine n_scope ?_ | refine n_son ?_ | refine n_sback ?_) | (with_reducible (first | apply n_region | apply d_region); (simp only [JV, JU, JW, Nat.reduceAdd, Nat.zero_add]; exact rfl)) | (with_reducible (first | apply s_op | apply n_guard | apply n_cond | apply d_guard | apply d_op | apply n_fin | apply n_finb); (simp (maxDischargeDepth := 6) only [sy3.1, zY, qG, qP, qQ, qR, qS, qT, rowAt, ↓jg, ↓ji, Nat.reduceAdd, Nat.reduceEqDiff, ne_eq, jG, Nat.reduceLT, if_true, ite_true, Int.reduceLE, Int.reduceLT, Int.reduceEq, Int.reduceNeg, Int.reduceAdd, Nat.reduceSub, if_false, ite_false, fs_4.1, g1, g15, l1, l2, kind_pure, kind_load, kind_fresh, kind_other, jg, ji, undef]; first | exact rfl | exact ⟨rfl, rfl, rfl, rfl⟩); try (with_reducible refine calmK_in ?_; decide +kernel)))
      refine ⟨_, _, rfl, o4, _, lg4, w4, B4, hs4, sa4, c4, sv4, now4, av4, all4, ups4, rfl, M.more (by omega) fun _ _ => rfl, R, hR, hal, hnl, E.turn ?_ ?_ ?_ ?_ ?_ ?_ ?_⟩ <;> simp only [qC, qD, qE, qF, Tr.get_nil, ne_eq, not_false_eq_true, Nat.reduceEqDiff]
    · rintro e5 H5 h5
      refine y_cut (I := fun e' H' => LawSt (intCells [.i64, .i64, .i64] zs) bx ⟨B.i, kp, kb, ks, nx2 + 7, nx3 + 2, nx1 + 8⟩ oa zs.length i (i + 1) e' H') ?_ ?_
      · refine n_block ?_
        refine (law_body hzs h5 hin.2 hin.1 (hoa (by omega))).mono ?_
        rintro _ ⟨e', H', rfl, hh⟩
        exact ⟨e', H', rfl, hh⟩
      · rintro e6 H6 ⟨o7, nx7, lg7, w7, B7, hs7, sa7, c7, sv7, now7, av7, all7, ups7, rfl, M7, R7, hR7, hal7, hnl7, E7⟩
        have g15 := E7.g15
        have hw1 : IntKind.i64.wrap (Int.ofNat i + 1) = Int.ofNat (i + 1) := by rw [wrap_small _ (by simp only [Int.ofNat_eq_natCast]; omega) (by simp only [Int.ofNat_eq_natCast]; omega)]; rfl
        refine n_region (by simp only [JV, JU, JW, Nat.reduceAdd, Nat.zero_add]; exact rfl) ?_
        repeat (first | with_reducible (first | refine n_on ?_ | refine n_seq ?_ | refine s_else ?_ | refine n_t ?_ | refine n_gt ?_ | refine d_t ?_ | refine n_nil ?_ | refine d_nil ?_ | refine n_block ?_ | refine n_skip ?_ | refine n_bon ?_ | refine n_bback ?_ | refine n_back ?_ | refine n_out ?_ | refine n_bout rfl ?_ | refine n_bfar rfl ?_ | refine n_ret ?_ | refine n_exit ?_ | refine n_label ?_ | refine n_scope ?_ | refine n_son ?_ | refine n_sback ?_) | (with_reducible (first | apply n_region | apply d_region); (simp only [JV, JU, JW, Nat.reduceAdd, Nat.zero_add]; exact rfl)) | (with_reducible (first | apply s_op | apply n_guard | apply n_cond | apply d_guard | apply d_op | apply n_fin | apply n_finb); (simp (maxDischargeDepth := 6) only [sy3.1, zY, qG, qP, qQ, qR, qS, qT, rowAt, ↓jg, ↓ji, Nat.reduceAdd, Nat.reduceEqDiff, ne_eq, jG, Nat.reduceLT, if_true, ite_true, Int.reduceLE, Int.reduceLT, Int.reduceEq, Int.reduceNeg, Int.reduceAdd, Nat.reduceSub, if_false, ite_false, fs_4.1, g15, hw1, kind_pure, kind_load, kind_fresh, kind_other, jg, ji, undef]; first | exact rfl | exact ⟨rfl, rfl, rfl, rfl⟩); try (with_reducible refine calmK_in ?_; decide +kernel)))
        refine ⟨q - 1, by omega, i + 1, by omega, o7, _, lg7, w7, B7, hs7, sa7, c7, sv7, now7, av7, all7, ups7, rfl, M7.more (by omega) fun _ _ => rfl, R7, hR7, hal7, hnl7, ⟨?_, ?_, ?_, ?_, ?_, ?_, ?_⟩⟩ <;> simp only [qC, qD, qE, qF, Tr.get_nil, ne_eq, not_false_eq_true, Nat.reduceEqDiff] <;> first | exact E7.g1 | exact E7.g5 | exact E7.g10 | exact E7.g11 | exact E7.g13 | exact E7.g14
  · cases l1 : decide (i < zs.length) with
    | false =>
      repeat (first | with_reducible (first | refine n_on ?_ | refine n_seq ?_ | refine s_else ?_ | refine n_t ?_ | refine n_gt ?_ | refine d_t ?_ | refine n_nil ?_ | refine d_nil ?_ | refine n_block ?_ | refine n_skip ?_ | refine n_bon ?_ | refine n_bback ?_ | refine n_back ?_ | refine n_out ?_ | refine n_bout rfl ?_ | refine n_bfar rfl ?_ | refine n_ret ?_ | refine n_exit ?_ | refine n_label ?_ | refine n_scope ?_ | refine n_son ?_ | refine n_sback ?_) | (with_reducible (first | apply n_region | apply d_region); (simp only [JV, JU, JW, Nat.reduceAdd, Nat.zero_add]; exact rfl)) | (with_reducible (first | apply s_op | apply n_guard | apply n_cond | apply d_guard | apply d_op | apply n_fin | apply n_finb); (simp (maxDischargeDepth := 6) only [sy3.1, zY, qG, qP, qQ, qR, qS, qT, rowAt, ↓jg, ↓ji, Nat.reduceAdd, Nat.reduceEqDiff, ne_eq, jG, Nat.reduceLT, if_true, ite_true, Int.reduceLE, Int.reduceLT, Int.reduceEq, Int.reduceNeg, Int.reduceAdd, Nat.reduceSub, if_false, ite_false, fs_4.1, g1, g15, l1, aw, kind_pure, kind_load, kind_fresh, kind_other, jg, ji, undef]; first | exact rfl | exact ⟨rfl, rfl, rfl, rfl⟩); try (with_reducible refine calmK_in ?_; decide +kernel)))
      exact leave_fst _ _ _
    | true =>
      have hil := of_decide_eq_true l1
      have l2 : decide (Int.ofNat i < 60) = false := decide_eq_false (by simp only [Int.ofNat_eq_natCast]; omega)
      repeat (first | with_reducible (first | refine n_on ?_ | refine n_seq ?_ | refine s_else ?_ | refine n_t ?_ | refine n_gt ?_ | refine d_t ?_ | refine n_nil ?_ | refine d_nil ?_ | refine n_block ?_ | refine n_skip ?_ | refine n_bon ?_ | refine n_bback ?_ | refine n_back ?_ | refine n_out ?_ | refine n_bout rfl ?_ | refine n_bfar rfl ?_ | refine n_ret ?_ | refine n_exit ?_ | refine n_label ?_ | refine n_scope ?_ | refine n_son ?_ | refine n_sback ?_) | (with_reducible (first | apply n_region | apply d_region); (simp only [JV, JU, JW, Nat.reduceAdd, Nat.zero_add]; exact rfl)) | (with_reducible (first | apply s_op | apply n_guard | apply n_cond | apply d_guard | apply d_op | apply n_fin | apply n_finb); (simp (maxDischargeDepth := 6) only [sy3.1, zY, qG, qP, qQ, qR, qS, qT, rowAt, ↓jg, ↓ji, Nat.reduceAdd, Nat.reduceEqDiff, ne_eq, jG, Nat.reduceLT, if_true, ite_true, Int.reduceLE, Int.reduceLT, Int.reduceEq, Int.reduceNeg, Int.reduceAdd, Nat.reduceSub, if_false, ite_false, fs_4.1, g1, g15, l1, l2, aw, kind_pure, kind_load, kind_fresh, kind_other, jg, ji, undef]; first | exact rfl | exact ⟨rfl, rfl, rfl, rfl⟩); try (with_reducible refine calmK_in ?_; decide +kernel)))
      exact leave_fst _ _ _
theorem vars_walk (a0 : Int) (a1 : Option Addr) (len1 cap1 : Nat) (zs : List (List Int)) (hl : zs.length = len1) (hz : ∀ y ∈ zs, y.length = 3) (w : World) (hr : CellRow w a1 len1 cap1 (intCells [.i64, .i64, .i64] zs)) :
    Calls Try.prog 4 #[.int .i64 a0, .slice a1 len1 cap1] w fun e w' => e = .returned (.bool true) ∧ Below w.heap.size w w' := by
  subst hl
  refine true_of_v O18_sound (by kernel_rfl) 1000 _ [.fl (.int .i64 a0), .sl a1 zs.length cap1 (intCells [.i64, .i64, .i64] zs)] w (fun g hg => ?_) (vars_run a0 _ zs hz (fun h0 => ?_) _ ((vH_get [.fl (.int .i64 a0), .sl a1 zs.length cap1 (intCells [.i64, .i64, .i64] zs)] 1).trans rfl))
  · simp only [List.mem_cons, List.not_mem_nil, or_false] at hg
    rcases hg with rfl | rfl
    · rfl
    · refine ⟨hr, ?_⟩
      rw [List.all_eq_true]
      intro v hv
      obtain ⟨y, _, hv⟩ := List.mem_flatMap.1 hv
      obtain ⟨p, _, rfl⟩ := List.mem_map.1 hv
      rfl
  · rcases hr with ⟨_, h, _⟩ | ⟨x, rfl, _⟩
    · omega
    · rfl
end Go.Proofs.Ytckahbnkdiamjaa
