/- PoolPlays: the script's Give and Resize, on both sides. -/
import Derived.Test.YticeabhilkceiaaPlJ
namespace Go.Proofs.Yticeabhilkceiaa
open Go.RowKit
set_option linter.unusedSimpArgs false
set_option linter.unusedVariables false
set_option maxRecDepth 100000

section
variable {z : List Value} {kw : Nat} {oa : Option Addr} {len i r : Nat} {kd id size : Int} {e : Tr Value} {H : AHeap}
set_option maxHeartbeats 32000000 in
theorem pl_c2 (h : PSt1 z kw oa len i r kd id size e H) (hr : r < 60) :
    Got (rCode Try.prog (oCall Try.prog [] O12 999) 999 (plC2 Try.f3) e H) fun s => ∃ e' H', s = (Way.on, e', H') ∧ PSt2 z kw oa len i (r + 1) kd id size e' H' := by
  have hO := clear12
  obtain ⟨o, nx, lg, ip, a, b, st, ra, rb, k10, rfl, M, hG, hsl, E, g10, hrow10, hk10, hm10, hw10⟩ := h
  have g1 := E.g1; have g5 := E.g5; have g7 := E.g7; have g9 := E.g9
  obtain ⟨hrl, hrs⟩ := good_refs hG
  have hil : (idsP st).length ≤ 60 := by rw [hrl]; have := pres_len st.sizes; omega
  refine n_seq ?_
  repeat (first | with_reducible (first | refine n_on ?_ | refine n_seq ?_ | refine s_else ?_ | refine n_t ?_ | refine n_gt ?_ | refine d_t ?_ | refine n_nil ?_ | refine d_nil ?_ | refine n_block ?_ | refine n_skip ?_ | refine n_bon ?_ | refine n_bback ?_ | refine n_back ?_ | refine n_out ?_ | refine n_bout rfl ?_ | refine n_bfar rfl ?_ | refine n_ret ?_ | refine n_exit ?_ | refine n_label ?_ | refine n_scope ?_ | refine n_son ?_ | refine n_sback ?_) | (with_reducible (first | apply n_region | apply d_region); (simp only [JV, JU, JW, Nat.reduceAdd, Nat.zero_add]; exact rfl)) | (with_reducible (first | apply s_op | apply n_guard | apply n_cond | apply d_guard | apply d_op | apply n_fin | apply n_finb); (simp (maxDischargeDepth := 6) only [sy3.1, zY, qG, qP, qQ, qR, qS, qT, rowAt, ↓jg, ↓ji, Nat.reduceAdd, Nat.reduceEqDiff, ne_eq, jG, Nat.reduceLT, if_true, ite_true, Int.reduceLE, Int.reduceLT, Int.reduceEq, Int.reduceNeg, Int.reduceAdd, Nat.reduceSub, if_false, ite_false, fs_3.1, g1, g5, g7, g9, g10, hrow10, hk10, kind_pure, kind_load, kind_fresh, kind_other, jg, ji, undef]; first | exact rfl | exact ⟨rfl, rfl, rfl, rfl⟩); try (with_reducible refine calmK_in ?_; decide +kernel)))
  refine s_do _ (by
    simp (maxDischargeDepth := 6) only [sy3.1, zY, qG, qP, qQ, qR, qS, qT, rowAt, ↓jg, ↓ji, Nat.reduceAdd, Nat.reduceEqDiff, ne_eq, jG, Nat.reduceLT, if_true, ite_true, Int.reduceLE, Int.reduceLT, Int.reduceEq, Int.reduceNeg, Int.reduceAdd, Nat.reduceSub, if_false, ite_false, fs_3.1]
    exact pgive_ok (n := 996) hO (M.pool.more (by omega) fun _ _ => rfl) hG id (by omega)) ?_
  rintro v1 ⟨o1, nx1, lg1⟩ ⟨_, _, _, a1, b1, heq, p1, p2, p3, p4, p5, _, _⟩
  cases heq
  have M1 := M.turn (by omega) p2 (give_bound st id) (fun x hx hm => p3 x (by omega) hm) (fun x hx => (mine_turn p4 p5 x hx).imp (fun h => h) (Nat.le_trans (by omega)))
  have hw1 := M1.wrow
  rw [give_bound] at hw1
  have hltw1 := M1.ltw
  have hrow1 := (p3 k10 (by omega) hm10).trans hrow10
  have hk1 : k10 < nx1 := by omega
  repeat (first | with_reducible (first | refine n_on ?_ | refine n_seq ?_ | refine s_else ?_ | refine n_t ?_ | refine n_gt ?_ | refine d_t ?_ | refine n_nil ?_ | refine d_nil ?_ | refine n_block ?_ | refine n_skip ?_ | refine n_bon ?_ | refine n_bback ?_ | refine n_back ?_ | refine n_out ?_ | refine n_bout rfl ?_ | refine n_bfar rfl ?_ | refine n_ret ?_ | refine n_exit ?_ | refine n_label ?_ | refine n_scope ?_ | refine n_son ?_ | refine n_sback ?_) | (with_reducible (first | apply n_region | apply d_region); (simp only [JV, JU, JW, Nat.reduceAdd, Nat.zero_add]; exact rfl)) | (with_reducible (first | apply s_op | apply n_guard | apply n_cond | apply d_guard | apply d_op | apply n_fin | apply n_finb); (simp (maxDischargeDepth := 6) only [sy3.1, zY, qG, qP, qQ, qR, qS, qT, rowAt, ↓jg, ↓ji, Nat.reduceAdd, Nat.reduceEqDiff, ne_eq, jG, Nat.reduceLT, if_true, ite_true, Int.reduceLE, Int.reduceLT, Int.reduceEq, Int.reduceNeg, Int.reduceAdd, Nat.reduceSub, if_false, ite_false, fs_3.1, g1, g5, g7, g9, g10, hrow1, hk1, hw1, hltw1, kind_pure, kind_load, kind_fresh, kind_other, jg, ji, undef]; first | exact rfl | exact ⟨rfl, rfl, rfl, rfl⟩); try (with_reducible refine calmK_in ?_; decide +kernel)))
  have hT := rgive_ok (n := 997) (bd := st.bound) (nx := nx1 + 9) (lg := lg1) hO (M1.more (nx' := nx1 + 9) (by omega) fun _ _ => rfl).lra (M1.more (nx' := nx1 + 9) (by omega) fun _ _ => rfl).lrb hrl (by omega) (by omega) id
  rw [give_rel st id] at hT
  have hGT := hG.give id
  have hlT := give_len st id
  have hbT := give_bound st id
  generalize giveP st id = T at *
  obtain ⟨T1, T3⟩ := T
  simp only at *
  refine s_do _ (by
    simp (maxDischargeDepth := 6) only [sy3.1, zY, qG, qP, qQ, qR, qS, qT, rowAt, ↓jg, ↓ji, Nat.reduceAdd, Nat.reduceEqDiff, ne_eq, jG, Nat.reduceLT, if_true, ite_true, Int.reduceLE, Int.reduceLT, Int.reduceEq, Int.reduceNeg, Int.reduceAdd, Nat.reduceSub, if_false, ite_false, fs_3.1]
    exact hT) ?_
  rintro v2 ⟨o2, nx2, lg2⟩ ⟨_, _, ra2, rb2, heq, q1, q2, q3, q4, q5, q6⟩
  cases heq
  have hw2 := (q4 kw (by omega)).trans hw1
  have hltw2 : kw < nx2 := by omega
  repeat (first | with_reducible (first | refine n_on ?_ | refine n_seq ?_ | refine s_else ?_ | refine n_t ?_ | refine n_gt ?_ | refine d_t ?_ | refine n_nil ?_ | refine d_nil ?_ | refine n_block ?_ | refine n_skip ?_ | refine n_bon ?_ | refine n_bback ?_ | refine n_back ?_ | refine n_out ?_ | refine n_bout rfl ?_ | refine n_bfar rfl ?_ | refine n_ret ?_ | refine n_exit ?_ | refine n_label ?_ | refine n_scope ?_ | refine n_son ?_ | refine n_sback ?_) | (with_reducible (first | apply n_region | apply d_region); (simp only [JV, JU, JW, Nat.reduceAdd, Nat.zero_add]; exact rfl)) | (with_reducible (first | apply s_op | apply n_guard | apply n_cond | apply d_guard | apply d_op | apply n_fin | apply n_finb); (simp (maxDischargeDepth := 6) only [sy3.1, zY, qG, qP, qQ, qR, qS, qT, rowAt, ↓jg, ↓ji, Nat.reduceAdd, Nat.reduceEqDiff, ne_eq, jG, Nat.reduceLT, if_true, ite_true, Int.reduceLE, Int.reduceLT, Int.reduceEq, Int.reduceNeg, Int.reduceAdd, Nat.reduceSub, if_false, ite_false, fs_3.1, g1, g5, g7, g9, g10, hw2, hltw2, rpV, kind_pure, kind_load, kind_fresh, kind_other, jg, ji, undef]; first | exact rfl | exact ⟨rfl, rfl, rfl, rfl⟩); try (with_reducible refine calmK_in ?_; decide +kernel)))
  refine ⟨_, _, rfl, ⟨_, _, _, ip, a1, b1, T1, ra2, rb2, k10, rfl, M1.ref (by omega) (by omega) q2 q3 (fun x hx => q4 x (by omega)) (fun x hx => (rp_new_blocks q5 q6 x hx).imp (fun h => h) (Nat.le_trans (by omega))) (by (repeat (first | rw [qE] | rw [qF _ _ _ _ (by omega)])); rw [hbT]) (fun x hx hne => by (repeat (first | rw [qE] | rw [qF _ _ _ _ (by omega)]))), hGT, by omega, E.turn ?_ ?_ ?_ ?_, ?_, ?_, by omega, ?_, hw10⟩, T3, ?_, ?_⟩
  · simp only [qC, qD, qE, qF, Tr.get_nil, ne_eq, not_false_eq_true, Nat.reduceEqDiff]
  · simp only [qC, qD, qE, qF, Tr.get_nil, ne_eq, not_false_eq_true, Nat.reduceEqDiff]
  · simp only [qC, qD, qE, qF, Tr.get_nil, ne_eq, not_false_eq_true, Nat.reduceEqDiff]
  · simp only [qC, qD, qE, qF, Tr.get_nil, ne_eq, not_false_eq_true, Nat.reduceEqDiff]
  · simp only [qC, qD, qE, qF, Tr.get_nil, ne_eq, not_false_eq_true, Nat.reduceEqDiff, g10]
  · (repeat (first | rw [qE] | rw [qF _ _ _ _ (by omega)]))
    rw [q4 k10 (by omega)]; exact hrow1
  · exact fun hm => (mine_turn p4 p5 _ hm).elim hm10 (fun h => by omega)
  · simp only [qC, qD, qE, qF, Tr.get_nil, ne_eq, not_false_eq_true, Nat.reduceEqDiff]
  · simp only [qC, qD, qE, qF, Tr.get_nil, ne_eq, not_false_eq_true, Nat.reduceEqDiff]
set_option maxHeartbeats 32000000 in
theorem pl_c3 (h : PSt1 z kw oa len i r kd id size e H) (hr : r < 60) :
    Got (rCode Try.prog (oCall Try.prog [] O12 999) 999 (plC3 Try.f3) e H) fun s => ∃ e' H', s = (Way.on, e', H') ∧ PSt2 z kw oa len i (r + 1) kd id size e' H' := by
  have hO := clear12
  obtain ⟨o, nx, lg, ip, a, b, st, ra, rb, k10, rfl, M, hG, hsl, E, g10, hrow10, hk10, hm10, hw10⟩ := h
  have g1 := E.g1; have g5 := E.g5; have g7 := E.g7; have g9 := E.g9
  obtain ⟨hrl, hrs⟩ := good_refs hG
  have hil : (idsP st).length ≤ 60 := by rw [hrl]; have := pres_len st.sizes; omega
  refine n_seq ?_
  repeat (first | with_reducible (first | refine n_on ?_ | refine n_seq ?_ | refine s_else ?_ | refine n_t ?_ | refine n_gt ?_ | refine d_t ?_ | refine n_nil ?_ | refine d_nil ?_ | refine n_block ?_ | refine n_skip ?_ | refine n_bon ?_ | refine n_bback ?_ | refine n_back ?_ | refine n_out ?_ | refine n_bout rfl ?_ | refine n_bfar rfl ?_ | refine n_ret ?_ | refine n_exit ?_ | refine n_label ?_ | refine n_scope ?_ | refine n_son ?_ | refine n_sback ?_) | (with_reducible (first | apply n_region | apply d_region); (simp only [JV, JU, JW, Nat.reduceAdd, Nat.zero_add]; exact rfl)) | (with_reducible (first | apply s_op | apply n_guard | apply n_cond | apply d_guard | apply d_op | apply n_fin | apply n_finb); (simp (maxDischargeDepth := 6) only [sy3.1, zY, qG, qP, qQ, qR, qS, qT, rowAt, ↓jg, ↓ji, Nat.reduceAdd, Nat.reduceEqDiff, ne_eq, jG, Nat.reduceLT, if_true, ite_true, Int.reduceLE, Int.reduceLT, Int.reduceEq, Int.reduceNeg, Int.reduceAdd, Nat.reduceSub, if_false, ite_false, fs_3.1, g1, g5, g7, g9, g10, hrow10, hk10, kind_pure, kind_load, kind_fresh, kind_other, jg, ji, undef]; first | exact rfl | exact ⟨rfl, rfl, rfl, rfl⟩); try (with_reducible refine calmK_in ?_; decide +kernel)))
  refine s_do _ (by
    simp (maxDischargeDepth := 6) only [sy3.1, zY, qG, qP, qQ, qR, qS, qT, rowAt, ↓jg, ↓ji, Nat.reduceAdd, Nat.reduceEqDiff, ne_eq, jG, Nat.reduceLT, if_true, ite_true, Int.reduceLE, Int.reduceLT, Int.reduceEq, Int.reduceNeg, Int.reduceAdd, Nat.reduceSub, if_false, ite_false, fs_3.1]
    exact presize_ok (n := 996) hO (M.pool.more (by omega) fun _ _ => rfl) hG id size (by omega)) ?_
  rintro v1 ⟨o1, nx1, lg1⟩ ⟨_, _, _, a1, b1, heq, p1, p2, p3, p4, p5, _, _⟩
  cases heq
  have M1 := M.turn (by omega) p2 (resize_bound st id size) (fun x hx hm => p3 x (by omega) hm) (fun x hx => (mine_turn p4 p5 x hx).imp (fun h => h) (Nat.le_trans (by omega)))
  have hw1 := M1.wrow
  rw [resize_bound] at hw1
  have hltw1 := M1.ltw
  have hrow1 := (p3 k10 (by omega) hm10).trans hrow10
  have hk1 : k10 < nx1 := by omega
  repeat (first | with_reducible (first | refine n_on ?_ | refine n_seq ?_ | refine s_else ?_ | refine n_t ?_ | refine n_gt ?_ | refine d_t ?_ | refine n_nil ?_ | refine d_nil ?_ | refine n_block ?_ | refine n_skip ?_ | refine n_bon ?_ | refine n_bback ?_ | refine n_back ?_ | refine n_out ?_ | refine n_bout rfl ?_ | refine n_bfar rfl ?_ | refine n_ret ?_ | refine n_exit ?_ | refine n_label ?_ | refine n_scope ?_ | refine n_son ?_ | refine n_sback ?_) | (with_reducible (first | apply n_region | apply d_region); (simp only [JV, JU, JW, Nat.reduceAdd, Nat.zero_add]; exact rfl)) | (with_reducible (first | apply s_op | apply n_guard | apply n_cond | apply d_guard | apply d_op | apply n_fin | apply n_finb); (simp (maxDischargeDepth := 6) only [sy3.1, zY, qG, qP, qQ, qR, qS, qT, rowAt, ↓jg, ↓ji, Nat.reduceAdd, Nat.reduceEqDiff, ne_eq, jG, Nat.reduceLT, if_true, ite_true, Int.reduceLE, Int.reduceLT, Int.reduceEq, Int.reduceNeg, Int.reduceAdd, Nat.reduceSub, if_false, ite_false, fs_3.1, g1, g5, g7, g9, g10, hrow1, hk1, hw1, hltw1, kind_pure, kind_load, kind_fresh, kind_other, jg, ji, undef]; first | exact rfl | exact ⟨rfl, rfl, rfl, rfl⟩); try (with_reducible refine calmK_in ?_; decide +kernel)))
  have hT := rresize_ok (n := 997) (bd := st.bound) (nx := nx1 + 11) (lg := lg1) hO (M1.more (nx' := nx1 + 11) (by omega) fun _ _ => rfl).lra (M1.more (nx' := nx1 + 11) (by omega) fun _ _ => rfl).lrb hrl (by omega) (pres_nn _) hrs hG.b1 (by omega) id size
  rw [resize_rel hG id size] at hT
  have hGT := hG.resize id size
  have hlT := resize_len st id size
  have hbT := resize_bound st id size
  generalize resizeP st id size = T at *
  obtain ⟨T1, T3⟩ := T
  simp only at *
  refine s_do _ (by
    simp (maxDischargeDepth := 6) only [sy3.1, zY, qG, qP, qQ, qR, qS, qT, rowAt, ↓jg, ↓ji, Nat.reduceAdd, Nat.reduceEqDiff, ne_eq, jG, Nat.reduceLT, if_true, ite_true, Int.reduceLE, Int.reduceLT, Int.reduceEq, Int.reduceNeg, Int.reduceAdd, Nat.reduceSub, if_false, ite_false, fs_3.1]
    exact hT) ?_
  rintro v2 ⟨o2, nx2, lg2⟩ ⟨_, _, ra2, rb2, heq, q1, q2, q3, q4, q5, q6⟩
  cases heq
  have hw2 := (q4 kw (by omega)).trans hw1
  have hltw2 : kw < nx2 := by omega
  repeat (first | with_reducible (first | refine n_on ?_ | refine n_seq ?_ | refine s_else ?_ | refine n_t ?_ | refine n_gt ?_ | refine d_t ?_ | refine n_nil ?_ | refine d_nil ?_ | refine n_block ?_ | refine n_skip ?_ | refine n_bon ?_ | refine n_bback ?_ | refine n_back ?_ | refine n_out ?_ | refine n_bout rfl ?_ | refine n_bfar rfl ?_ | refine n_ret ?_ | refine n_exit ?_ | refine n_label ?_ | refine n_scope ?_ | refine n_son ?_ | refine n_sback ?_) | (with_reducible (first | apply n_region | apply d_region); (simp only [JV, JU, JW, Nat.reduceAdd, Nat.zero_add]; exact rfl)) | (with_reducible (first | apply s_op | apply n_guard | apply n_cond | apply d_guard | apply d_op | apply n_fin | apply n_finb); (simp (maxDischargeDepth := 6) only [sy3.1, zY, qG, qP, qQ, qR, qS, qT, rowAt, ↓jg, ↓ji, Nat.reduceAdd, Nat.reduceEqDiff, ne_eq, jG, Nat.reduceLT, if_true, ite_true, Int.reduceLE, Int.reduceLT, Int.reduceEq, Int.reduceNeg, Int.reduceAdd, Nat.reduceSub, if_false, ite_false, fs_3.1, g1, g5, g7, g9, g10, hw2, hltw2, rpV, kind_pure, kind_load, kind_fresh, kind_other, jg, ji, undef]; first | exact rfl | exact ⟨rfl, rfl, rfl, rfl⟩); try (with_reducible refine calmK_in ?_; decide +kernel)))
  refine ⟨_, _, rfl, ⟨_, _, _, ip, a1, b1, T1, ra2, rb2, k10, rfl, M1.ref (by omega) (by omega) q2 q3 (fun x hx => q4 x (by omega)) (fun x hx => (rp_new_blocks q5 q6 x hx).imp (fun h => h) (Nat.le_trans (by omega))) (by (repeat (first | rw [qE] | rw [qF _ _ _ _ (by omega)])); rw [hbT]) (fun x hx hne => by (repeat (first | rw [qE] | rw [qF _ _ _ _ (by omega)]))), hGT, by omega, E.turn ?_ ?_ ?_ ?_, ?_, ?_, by omega, ?_, hw10⟩, T3, ?_, ?_⟩
  · simp only [qC, qD, qE, qF, Tr.get_nil, ne_eq, not_false_eq_true, Nat.reduceEqDiff]
  · simp only [qC, qD, qE, qF, Tr.get_nil, ne_eq, not_false_eq_true, Nat.reduceEqDiff]
  · simp only [qC, qD, qE, qF, Tr.get_nil, ne_eq, not_false_eq_true, Nat.reduceEqDiff]
  · simp only [qC, qD, qE, qF, Tr.get_nil, ne_eq, not_false_eq_true, Nat.reduceEqDiff]
  · simp only [qC, qD, qE, qF, Tr.get_nil, ne_eq, not_false_eq_true, Nat.reduceEqDiff, g10]
  · (repeat (first | rw [qE] | rw [qF _ _ _ _ (by omega)]))
    rw [q4 k10 (by omega)]; exact hrow1
  · exact fun hm => (mine_turn p4 p5 _ hm).elim hm10 (fun h => by omega)
  · simp only [qC, qD, qE, qF, Tr.get_nil, ne_eq, not_false_eq_true, Nat.reduceEqDiff]
  · simp only [qC, qD, qE, qF, Tr.get_nil, ne_eq, not_false_eq_true, Nat.reduceEqDiff]
end
end Go.Proofs.Yticeabhilkceiaa
