/- PoolPlays: a round, and the run. -/
import Derived.Test.YticeabhilkceiaaPlL
namespace Go.Proofs.Yticeabhilkceiaa
open Go.RowKit
set_option linter.unusedSimpArgs false
set_option linter.unusedVariables false
set_option maxRecDepth 100000

theorem PSt1.turn {z : List Value} {kw : Nat} {oa : Option Addr} {len i r : Nat} {kd id size : Int} {e e' : Tr Value} {o : Tr AObj} {nx nx' : Nat} {lg lg' : List Nat} (h : PSt1 z kw oa len i r kd id size e ⟨o, nx, lg⟩) (hn : nx ≤ nx') (h1 : e'.get 1 = e.get 1) (h5 : e'.get 5 = e.get 5) (h7 : e'.get 7 = e.get 7) (h9 : e'.get 9 = e.get 9) (h10 : e'.get 10 = e.get 10) : PSt1 z kw oa len i r kd id size e' ⟨o, nx', lg'⟩ := by
  obtain ⟨_, _, _, ip, a, b, st, ra, rb, k10, heq, M, hG, hsl, E, g10, hrow10, hk10, hm10, hw10⟩ := h
  cases heq
  exact ⟨_, _, _, ip, a, b, st, ra, rb, k10, rfl, M.more hn fun _ _ => rfl, hG, hsl, E.turn h1 h5 h7 h9, h10.trans g10, hrow10, by omega, hm10, hw10⟩
theorem PSt1.up {z : List Value} {kw : Nat} {oa : Option Addr} {len i r : Nat} {kd id size : Int} {e : Tr Value} {H : AHeap} (h : PSt1 z kw oa len i r kd id size e H) : PSt1 z kw oa len i (r + 1) kd id size e H := by
  obtain ⟨o, nx, lg, ip, a, b, st, ra, rb, k10, heq, M, hG, hsl, rest⟩ := h
  exact ⟨o, nx, lg, ip, a, b, st, ra, rb, k10, heq, M, hG, by omega, rest⟩
set_option maxHeartbeats 32000000 in
theorem pl_body {zs : List (List Int)} (hzs : ∀ y ∈ zs, y.length = 3) {kw : Nat} {oa : Option Addr} {i : Nat} {e : Tr Value} {H : AHeap} (h : PSt (intCells [.i64, .i64, .i64] zs) kw oa zs.length i i e H) (hi : i < 60) (hil : i < zs.length) (hoa : oa = some ⟨1, 0, none⟩) :
    Got (rCode Try.prog (oCall Try.prog [] O12 999) 999 (plRB Try.f3) e H) fun s => ∃ e' H', s = (Way.on, e', H') ∧ PSt (intCells [.i64, .i64, .i64] zs) kw oa zs.length i (i + 1) e' H' := by
  have hO := clear12
  obtain ⟨kd, id, size, hcut⟩ := in_cells3 zs hzs hil
  generalize intCells [.i64, .i64, .i64] zs = z at h hcut ⊢
  have l1 : Nat.blt i zs.length = true := by rw [Nat.blt_eq]; exact hil
  have n1 : decide (zs.length ≤ i) = false := decide_eq_false (by omega)
  refine y_cut (I := fun e' H' => PSt1 z kw oa zs.length i i kd id size e' H') ?_ ?_
  · obtain ⟨o, nx, lg, ip, a, b, st, ra, rb, rfl, M, hG, hsl, E⟩ := h
    have g1 := E.g1; have g9 := E.g9
    rw [hoa] at g1
    have hgu := M.guest
    have hlg := M.ltg
    refine n_region (by simp only [JV, JU, JW, Nat.reduceAdd, Nat.zero_add]; exact rfl) ?_
    repeat (first | with_reducible (first | refine n_on ?_ | refine n_seq ?_ | refine s_else ?_ | refine n_t ?_ | refine n_gt ?_ | refine d_t ?_ | refine n_nil ?_ | refine d_nil ?_ | refine n_block ?_ | refine n_skip ?_ | refine n_bon ?_ | refine n_bback ?_ | refine n_back ?_ | refine n_out ?_ | refine n_bout rfl ?_ | refine n_bfar rfl ?_ | refine n_ret ?_ | refine n_exit ?_ | refine n_label ?_ | refine n_scope ?_ | refine n_son ?_ | refine n_sback ?_) | (with_reducible (first | apply n_region | apply d_region); (simp only [JV, JU, JW, Nat.reduceAdd, Nat.zero_add]; exact rfl)) | (with_reducible (first | apply s_op | apply n_guard | apply n_cond | apply d_guard | apply d_op | apply n_fin | apply n_finb); (simp (maxDischargeDepth := 6) only [sy3.1, zY, qG, qP, qQ, qR, qS, qT, rowAt, ↓jg, ↓ji, Nat.reduceAdd, Nat.reduceEqDiff, ne_eq, jG, Nat.reduceLT, if_true, ite_true, Int.reduceLE, Int.reduceLT, Int.reduceEq, Int.reduceNeg, Int.reduceAdd, Nat.reduceSub, if_false, ite_false, fs_3.1, g1, g9, hgu, hlg, hcut, l1, n1, indexAt, Option.isNone_none, Nat.zero_mul, Nat.one_mul, Nat.mul_one, kind_pure, kind_load, kind_fresh, kind_other, jg, ji, undef]; first | exact rfl | exact ⟨rfl, rfl, rfl, rfl⟩); try (with_reducible refine calmK_in ?_; decide +kernel)))
    have hltw := M.ltw
    refine ⟨_, _, rfl, _, _, _, ip, a, b, st, ra, rb, nx + 4, rfl, M.more (by omega) fun x hx => by (repeat (first | rw [qE] | rw [qF _ _ _ _ (by omega)])), hG, hsl, E.turn ?_ ?_ ?_ ?_, ?_, ?_, by omega, fun hm => ?_, by omega⟩
    · simp only [qC, qD, qE, qF, Tr.get_nil, ne_eq, not_false_eq_true, Nat.reduceEqDiff]
    · simp only [qC, qD, qE, qF, Tr.get_nil, ne_eq, not_false_eq_true, Nat.reduceEqDiff]
    · simp only [qC, qD, qE, qF, Tr.get_nil, ne_eq, not_false_eq_true, Nat.reduceEqDiff]
    · simp only [qC, qD, qE, qF, Tr.get_nil, ne_eq, not_false_eq_true, Nat.reduceEqDiff]
    · simp only [qC, qD, qE, qF, Tr.get_nil, ne_eq, not_false_eq_true, Nat.reduceEqDiff]
    · (repeat (first | rw [qE] | rw [qF _ _ _ _ (by omega)]))
    · have := M.pool.mine_lt hm; omega
  rintro e1 ⟨o1, nx1, lg1⟩ h1
  refine y_cut (I := fun e' H' => PSt1 z kw oa zs.length i i kd id size e' H' ∧ e'.get 11 = some (.int .i64 0) ∧ e'.get 12 = some (.int .i64 0)) ?_ ?_
  · refine n_region (by simp only [JV, JU, JW, Nat.reduceAdd, Nat.zero_add]; exact rfl) ?_
    repeat (first | with_reducible (first | refine n_on ?_ | refine n_seq ?_ | refine s_else ?_ | refine n_t ?_ | refine n_gt ?_ | refine d_t ?_ | refine n_nil ?_ | refine d_nil ?_ | refine n_block ?_ | refine n_skip ?_ | refine n_bon ?_ | refine n_bback ?_ | refine n_back ?_ | refine n_out ?_ | refine n_bout rfl ?_ | refine n_bfar rfl ?_ | refine n_ret ?_ | refine n_exit ?_ | refine n_label ?_ | refine n_scope ?_ | refine n_son ?_ | refine n_sback ?_) | (with_reducible (first | apply n_region | apply d_region); (simp only [JV, JU, JW, Nat.reduceAdd, Nat.zero_add]; exact rfl)) | (with_reducible (first | apply s_op | apply n_guard | apply n_cond | apply d_guard | apply d_op | apply n_fin | apply n_finb); (simp (maxDischargeDepth := 6) only [sy3.1, zY, qG, qP, qQ, qR, qS, qT, rowAt, ↓jg, ↓ji, Nat.reduceAdd, Nat.reduceEqDiff, ne_eq, jG, Nat.reduceLT, if_true, ite_true, Int.reduceLE, Int.reduceLT, Int.reduceEq, Int.reduceNeg, Int.reduceAdd, Nat.reduceSub, if_false, ite_false, fs_3.1, Nat.zero_mul, kind_pure, kind_load, kind_fresh, kind_other, jg, ji, undef]; first | exact rfl | exact ⟨rfl, rfl, rfl, rfl⟩); try (with_reducible refine calmK_in ?_; decide +kernel)))
    refine ⟨_, _, rfl, h1.turn (by omega) ?_ ?_ ?_ ?_ ?_, ?_, ?_⟩ <;> simp only [qC, qD, qE, qF, Tr.get_nil, ne_eq, not_false_eq_true, Nat.reduceEqDiff]
  rintro e2 ⟨o2, nx2, lg2⟩ ⟨h2, g11, g12⟩
  refine y_cut (I := fun e' H' => PSt2 z kw oa zs.length i (i + 1) kd id size e' H') ?_ fun e' H' h' => (pl_tail h' (by omega)).mono fun s hs => hs
  refine n_seq ?_
  have hh := h2
  obtain ⟨_, _, _, ip, a, b, st, ra, rb, k10, heq, M, hG, hsl, E, g10, hrow10, hk10, hm10, hw10⟩ := hh
  cases heq
  have fin : ∀ (s : St), (∃ e' H', s = (Way.on, e', H') ∧ PSt2 z kw oa zs.length i (i + 1) kd id size e' H') → outOf 2 (fun s => ∃ e h, s = (Way.on, e, h) ∧ PSt2 z kw oa zs.length i (i + 1) kd id size e h) s := by
    rintro _ ⟨e', H', rfl, hh⟩
    exact ⟨e', H', rfl, hh⟩
  repeat (first | with_reducible (first | refine n_on ?_ | refine n_seq ?_ | refine s_else ?_ | refine n_t ?_ | refine n_gt ?_ | refine d_t ?_ | refine n_nil ?_ | refine d_nil ?_ | refine n_block ?_ | refine n_skip ?_ | refine n_bon ?_ | refine n_bback ?_ | refine n_back ?_ | refine n_out ?_ | refine n_bout rfl ?_ | refine n_bfar rfl ?_ | refine n_ret ?_ | refine n_exit ?_ | refine n_label ?_ | refine n_scope ?_ | refine n_son ?_ | refine n_sback ?_) | (with_reducible (first | apply n_region | apply d_region); (simp only [JV, JU, JW, Nat.reduceAdd, Nat.zero_add]; exact rfl)) | (with_reducible (first | apply s_op | apply n_guard | apply n_cond | apply d_guard | apply d_op | apply n_fin | apply n_finb); (simp (maxDischargeDepth := 6) only [sy3.1, zY, qG, qP, qQ, qR, qS, qT, rowAt, ↓jg, ↓ji, Nat.reduceAdd, Nat.reduceEqDiff, ne_eq, jG, Nat.reduceLT, if_true, ite_true, Int.reduceLE, Int.reduceLT, Int.reduceEq, Int.reduceNeg, Int.reduceAdd, Nat.reduceSub, if_false, ite_false, fs_3.1, g10, hrow10, hk10, kind_pure, kind_load, kind_fresh, kind_other, jg, ji, undef]; first | exact rfl | exact ⟨rfl, rfl, rfl, rfl⟩); try (with_reducible refine calmK_in ?_; decide +kernel)))
  cases c1 : decide (kd = 1) with
  | true =>
    refine (pl_c1 (h2.turn (by omega) ?_ ?_ ?_ ?_ ?_) hi).mono fin <;> simp only [qC, qD, qE, qF, Tr.get_nil, ne_eq, not_false_eq_true, Nat.reduceEqDiff]
  | false =>
    refine n_seq ?_
    repeat (first | with_reducible (first | refine n_on ?_ | refine n_seq ?_ | refine s_else ?_ | refine n_t ?_ | refine n_gt ?_ | refine d_t ?_ | refine n_nil ?_ | refine d_nil ?_ | refine n_block ?_ | refine n_skip ?_ | refine n_bon ?_ | refine n_bback ?_ | refine n_back ?_ | refine n_out ?_ | refine n_bout rfl ?_ | refine n_bfar rfl ?_ | refine n_ret ?_ | refine n_exit ?_ | refine n_label ?_ | refine n_scope ?_ | refine n_son ?_ | refine n_sback ?_) | (with_reducible (first | apply n_region | apply d_region); (simp only [JV, JU, JW, Nat.reduceAdd, Nat.zero_add]; exact rfl)) | (with_reducible (first | apply s_op | apply n_guard | apply n_cond | apply d_guard | apply d_op | apply n_fin | apply n_finb); (simp (maxDischargeDepth := 6) only [sy3.1, zY, qG, qP, qQ, qR, qS, qT, rowAt, ↓jg, ↓ji, Nat.reduceAdd, Nat.reduceEqDiff, ne_eq, jG, Nat.reduceLT, if_true, ite_true, Int.reduceLE, Int.reduceLT, Int.reduceEq, Int.reduceNeg, Int.reduceAdd, Nat.reduceSub, if_false, ite_false, fs_3.1, g10, hrow10, hk10, kind_pure, kind_load, kind_fresh, kind_other, jg, ji, undef]; first | exact rfl | exact ⟨rfl, rfl, rfl, rfl⟩); try (with_reducible refine calmK_in ?_; decide +kernel)))
    cases c2 : decide (kd = 2) with
    | true =>
      refine (pl_c2 (h2.turn (by omega) ?_ ?_ ?_ ?_ ?_) hi).mono fin <;> simp only [qC, qD, qE, qF, Tr.get_nil, ne_eq, not_false_eq_true, Nat.reduceEqDiff]
    | false =>
      refine n_seq ?_
      repeat (first | with_reducible (first | refine n_on ?_ | refine n_seq ?_ | refine s_else ?_ | refine n_t ?_ | refine n_gt ?_ | refine d_t ?_ | refine n_nil ?_ | refine d_nil ?_ | refine n_block ?_ | refine n_skip ?_ | refine n_bon ?_ | refine n_bback ?_ | refine n_back ?_ | refine n_out ?_ | refine n_bout rfl ?_ | refine n_bfar rfl ?_ | refine n_ret ?_ | refine n_exit ?_ | refine n_label ?_ | refine n_scope ?_ | refine n_son ?_ | refine n_sback ?_) | (with_reducible (first | apply n_region | apply d_region); (simp only [JV, JU, JW, Nat.reduceAdd, Nat.zero_add]; exact rfl)) | (with_reducible (first | apply s_op | apply n_guard | apply n_cond | apply d_guard | apply d_op | apply n_fin | apply n_finb); (simp (maxDischargeDepth := 6) only [sy3.1, zY, qG, qP, qQ, qR, qS, qT, rowAt, ↓jg, ↓ji, Nat.reduceAdd, Nat.reduceEqDiff, ne_eq, jG, Nat.reduceLT, if_true, ite_true, Int.reduceLE, Int.reduceLT, Int.reduceEq, Int.reduceNeg, Int.reduceAdd, Nat.reduceSub, if_false, ite_false, fs_3.1, g10, hrow10, hk10, kind_pure, kind_load, kind_fresh, kind_other, jg, ji, undef]; first | exact rfl | exact ⟨rfl, rfl, rfl, rfl⟩); try (with_reducible refine calmK_in ?_; decide +kernel)))
      cases c3 : decide (kd = 3) with
      | true =>
        refine (pl_c3 (h2.turn (by omega) ?_ ?_ ?_ ?_ ?_) hi).mono fin <;> simp only [qC, qD, qE, qF, Tr.get_nil, ne_eq, not_false_eq_true, Nat.reduceEqDiff]
      | false =>
        refine n_seq ?_
        repeat (first | with_reducible (first | refine n_on ?_ | refine n_seq ?_ | refine s_else ?_ | refine n_t ?_ | refine n_gt ?_ | refine d_t ?_ | refine n_nil ?_ | refine d_nil ?_ | refine n_block ?_ | refine n_skip ?_ | refine n_bon ?_ | refine n_bback ?_ | refine n_back ?_ | refine n_out ?_ | refine n_bout rfl ?_ | refine n_bfar rfl ?_ | refine n_ret ?_ | refine n_exit ?_ | refine n_label ?_ | refine n_scope ?_ | refine n_son ?_ | refine n_sback ?_) | (with_reducible (first | apply n_region | apply d_region); (simp only [JV, JU, JW, Nat.reduceAdd, Nat.zero_add]; exact rfl)) | (with_reducible (first | apply s_op | apply n_guard | apply n_cond | apply d_guard | apply d_op | apply n_fin | apply n_finb); (simp (maxDischargeDepth := 6) only [sy3.1, zY, qG, qP, qQ, qR, qS, qT, rowAt, ↓jg, ↓ji, Nat.reduceAdd, Nat.reduceEqDiff, ne_eq, jG, Nat.reduceLT, if_true, ite_true, Int.reduceLE, Int.reduceLT, Int.reduceEq, Int.reduceNeg, Int.reduceAdd, Nat.reduceSub, if_false, ite_false, fs_3.1, g10, hrow10, hk10, kind_pure, kind_load, kind_fresh, kind_other, jg, ji, undef]; first | exact rfl | exact ⟨rfl, rfl, rfl, rfl⟩); try (with_reducible refine calmK_in ?_; decide +kernel)))
        cases c4 : decide (kd = 4) with
        | true =>
          refine (pl_c4 (h2.turn (by omega) ?_ ?_ ?_ ?_ ?_) ?_ ?_ hi).mono fin <;> simp only [qC, qD, qE, qF, Tr.get_nil, ne_eq, not_false_eq_true, Nat.reduceEqDiff, g11, g12]
        | false =>
          repeat (first | with_reducible (first | refine n_on ?_ | refine n_seq ?_ | refine s_else ?_ | refine n_t ?_ | refine n_gt ?_ | refine d_t ?_ | refine n_nil ?_ | refine d_nil ?_ | refine n_block ?_ | refine n_skip ?_ | refine n_bon ?_ | refine n_bback ?_ | refine n_back ?_ | refine n_out ?_ | refine n_bout rfl ?_ | refine n_bfar rfl ?_ | refine n_ret ?_ | refine n_exit ?_ | refine n_label ?_ | refine n_scope ?_ | refine n_son ?_ | refine n_sback ?_) | (with_reducible (first | apply n_region | apply d_region); (simp only [JV, JU, JW, Nat.reduceAdd, Nat.zero_add]; exact rfl)) | (with_reducible (first | apply s_op | apply n_guard | apply n_cond | apply d_guard | apply d_op | apply n_fin | apply n_finb); (simp (maxDischargeDepth := 6) only [sy3.1, zY, qG, qP, qQ, qR, qS, qT, rowAt, ↓jg, ↓ji, Nat.reduceAdd, Nat.reduceEqDiff, ne_eq, jG, Nat.reduceLT, if_true, ite_true, Int.reduceLE, Int.reduceLT, Int.reduceEq, Int.reduceNeg, Int.reduceAdd, Nat.reduceSub, if_false, ite_false, fs_3.1, g10, kind_pure, kind_load, kind_fresh, kind_other, jg, ji, undef]; first | exact rfl | exact ⟨rfl, rfl, rfl, rfl⟩); try (with_reducible refine calmK_in ?_; decide +kernel)))
          refine ⟨_, _, rfl, (h2.turn (by omega) ?_ ?_ ?_ ?_ ?_).up, 0, ?_, ?_⟩ <;> simp only [qC, qD, qE, qF, Tr.get_nil, ne_eq, not_false_eq_true, Nat.reduceEqDiff, g11, g12]
theorem ptr_nn : binV Try.prog .eql 23 false true (.pointer none) (.pointer none) = some (.bool true) := by kernel_rfl
set_option maxHeartbeats 32000000 in
theorem plays_run (bd : Int) (oa : Option Addr) (zs : List (List Int)) (hzs : ∀ y ∈ zs, y.length = 3) (hoa : 0 < zs.length → oa = some ⟨1, 0, none⟩) (og : Tr AObj) (hgu : og.get 1 = some (.row (intCells [.i64, .i64, .i64] zs) 0 1 false)) :
    Got (oCall Try.prog [] O12 1000 3 [.int .i64 bd, .slice oa zs.length 0] ⟨og, 2, []⟩) fun x => x.1 = .bool true := by
  have hO := clear12
  have aw := fun n (o : Tr AObj) nx lg => awake12_ok (n := n) (o := o) (nx := nx) (lg := lg)
  rw [y_fn (rs := [.tmp 4]) (hO _ (by decide)) Try.func3 rfl (by kernel_rfl) rfl rfl]
  by_cases hbd : bd < 0 ∨ 1073741824 < bd
  · have h1 := fun (o : Tr AObj) (nx : Nat) (lg : List Nat) => pnew_bad (n := 998) (o := o) (nx := nx) (lg := lg) hO bd hbd
    have h2 := fun (o : Tr AObj) (nx : Nat) (lg : List Nat) => rnew_bad (n := 998) (o := o) (nx := nx) (lg := lg) hO bd hbd
    repeat (first | with_reducible (first | refine n_on ?_ | refine n_seq ?_ | refine s_else ?_ | refine n_t ?_ | refine n_gt ?_ | refine d_t ?_ | refine n_nil ?_ | refine d_nil ?_ | refine n_block ?_ | refine n_skip ?_ | refine n_bon ?_ | refine n_bback ?_ | refine n_back ?_ | refine n_out ?_ | refine n_bout rfl ?_ | refine n_bfar rfl ?_ | refine n_ret ?_ | refine n_exit ?_ | refine n_label ?_ | refine n_scope ?_ | refine n_son ?_ | refine n_sback ?_) | (with_reducible (first | apply n_region | apply d_region); (simp only [JV, JU, JW, Nat.reduceAdd, Nat.zero_add]; exact rfl)) | (with_reducible (first | apply s_op | apply n_guard | apply n_cond | apply d_guard | apply d_op | apply n_fin | apply n_finb); (simp (maxDischargeDepth := 6) only [sy3.1, zY, qG, qP, qQ, qR, qS, qT, rowAt, ↓jg, ↓ji, Nat.reduceAdd, Nat.reduceEqDiff, ne_eq, jG, Nat.reduceLT, if_true, ite_true, Int.reduceLE, Int.reduceLT, Int.reduceEq, Int.reduceNeg, Int.reduceAdd, Nat.reduceSub, if_false, ite_false, fs_3.1, h1, h2, aw, ptr_nn, rpV, slA, kind_pure, kind_load, kind_fresh, kind_other, jg, ji, undef]; first | exact rfl | exact ⟨rfl, rfl, rfl, rfl⟩); try (with_reducible refine calmK_in ?_; decide +kernel)))
    exact leave_fst _ _ _
  have h2 := fun (o : Tr AObj) (nx : Nat) (lg : List Nat) => rnew_ok (n := 998) (o := o) (nx := nx) (lg := lg) hO bd (by omega) (by omega)
  repeat (first | with_reducible (first | refine n_on ?_ | refine n_seq ?_ | refine s_else ?_ | refine n_t ?_ | refine n_gt ?_ | refine d_t ?_ | refine n_nil ?_ | refine d_nil ?_ | refine n_block ?_ | refine n_skip ?_ | refine n_bon ?_ | refine n_bback ?_ | refine n_back ?_ | refine n_out ?_ | refine n_bout rfl ?_ | refine n_bfar rfl ?_ | refine n_ret ?_ | refine n_exit ?_ | refine n_label ?_ | refine n_scope ?_ | refine n_son ?_ | refine n_sback ?_) | (with_reducible (first | apply n_region | apply d_region); (simp only [JV, JU, JW, Nat.reduceAdd, Nat.zero_add]; exact rfl)) | (with_reducible (first | apply s_op | apply n_guard | apply n_cond | apply d_guard | apply d_op | apply n_fin | apply n_finb); (simp (maxDischargeDepth := 6) only [sy3.1, zY, qG, qP, qQ, qR, qS, qT, rowAt, ↓jg, ↓ji, Nat.reduceAdd, Nat.reduceEqDiff, ne_eq, jG, Nat.reduceLT, if_true, ite_true, Int.reduceLE, Int.reduceLT, Int.reduceEq, Int.reduceNeg, Int.reduceAdd, Nat.reduceSub, if_false, ite_false, fs_3.1, Nat.zero_mul, kind_pure, kind_load, kind_fresh, kind_other, jg, ji, undef]; first | exact rfl | exact ⟨rfl, rfl, rfl, rfl⟩); try (with_reducible refine calmK_in ?_; decide +kernel)))
  refine s_do _ (by
    simp (maxDischargeDepth := 6) only [sy3.1, zY, qG, qP, qQ, qR, qS, qT, rowAt, ↓jg, ↓ji, Nat.reduceAdd, Nat.reduceEqDiff, ne_eq, jG, Nat.reduceLT, if_true, ite_true, Int.reduceLE, Int.reduceLT, Int.reduceEq, Int.reduceNeg, Int.reduceAdd, Nat.reduceSub, if_false, ite_false, fs_3.1]
    exact pnew_ok (n := 998) hO bd (by omega) (by omega)) ?_
  rintro v1 ⟨o1, nx1, lg1⟩ ⟨_, _, _, ip, heq, hn1, hip, hP, hfr, _⟩
  cases heq
  repeat (first | with_reducible (first | refine n_on ?_ | refine n_seq ?_ | refine s_else ?_ | refine n_t ?_ | refine n_gt ?_ | refine d_t ?_ | refine n_nil ?_ | refine d_nil ?_ | refine n_block ?_ | refine n_skip ?_ | refine n_bon ?_ | refine n_bback ?_ | refine n_back ?_ | refine n_out ?_ | refine n_bout rfl ?_ | refine n_bfar rfl ?_ | refine n_ret ?_ | refine n_exit ?_ | refine n_label ?_ | refine n_scope ?_ | refine n_son ?_ | refine n_sback ?_) | (with_reducible (first | apply n_region | apply d_region); (simp only [JV, JU, JW, Nat.reduceAdd, Nat.zero_add]; exact rfl)) | (with_reducible (first | apply s_op | apply n_guard | apply n_cond | apply d_guard | apply d_op | apply n_fin | apply n_finb); (simp (maxDischargeDepth := 6) only [sy3.1, zY, qG, qP, qQ, qR, qS, qT, rowAt, ↓jg, ↓ji, Nat.reduceAdd, Nat.reduceEqDiff, ne_eq, jG, Nat.reduceLT, if_true, ite_true, Int.reduceLE, Int.reduceLT, Int.reduceEq, Int.reduceNeg, Int.reduceAdd, Nat.reduceSub, if_false, ite_false, fs_3.1, h2, rpV, slA, kind_pure, kind_load, kind_fresh, kind_other, jg, ji, undef]; first | exact rfl | exact ⟨rfl, rfl, rfl, rfl⟩); try (with_reducible refine calmK_in ?_; decide +kernel)))
  rw [y_loop_eq]
  refine y_loop (I := fun q e H => ∃ i, i + q = 60 ∧ PSt (intCells [.i64, .i64, .i64] zs) (nx1 + 5) oa zs.length i i e H) ?_ 60 _ _ _ ⟨0, rfl, _, _, _, ip, none, none, ⟨bd, 0, 0, [], []⟩, none, none, rfl, ⟨hP.more (by omega) fun x hx => by (repeat (first | rw [qE] | rw [qF _ _ _ _ (by omega)])), ?_, .inl ⟨rfl, rfl⟩, .inl ⟨rfl, rfl⟩, ?_, by omega, by omega, fun x hx hm => ?_, by omega, by simp, by simp⟩, good_new bd (by omega) (by omega), Nat.le_refl _, ⟨?_, ?_, ?_, ?_⟩⟩ (by omega)
  rotate_left
  · (repeat (first | rw [qE] | rw [qF _ _ _ _ (by omega)])) <;> rfl
  · (repeat (first | rw [qE] | rw [qF _ _ _ _ (by omega)]))
    rw [hfr 1 (by omega)]
    (repeat (first | rw [qE] | rw [qF _ _ _ _ (by omega)]))
    exact hgu
  · rcases hm with rfl | hm | hm
    · have := hP.lt
      rcases hx with hx | hx | hx | hx
      · omega
      · omega
      · cases hx
      · cases hx
    · cases hm
    · cases hm
  · simp only [qC, qD, qE, qF, Tr.get_nil, ne_eq, not_false_eq_true, Nat.reduceEqDiff]; rfl
  · simp only [qC, qD, qE, qF, Tr.get_nil, ne_eq, not_false_eq_true, Nat.reduceEqDiff]
  · simp only [qC, qD, qE, qF, Tr.get_nil, ne_eq, not_false_eq_true, Nat.reduceEqDiff]
  · simp only [qC, qD, qE, qF, Tr.get_nil, ne_eq, not_false_eq_true, Nat.reduceEqDiff]; rfl
  rintro q e4 H4 ⟨i, hiq, hst⟩
  have hst' := hst
  obtain ⟨o4, nx4, lg4, ip4, a4, b4, st4, ra4, rb4, rfl, M, hG, hsl, E⟩ := hst'
  have g1 := E.g1
  have g9 := E.g9
  by_cases hin : i < zs.length ∧ i < 60
  · have l1 : decide (i < zs.length) = true := decide_eq_true hin.1
    have l2 : decide (Int.ofNat i < 60) = true := decide_eq_true (by simp only [Int.ofNat_eq_natCast]; omega)
    refine y_cut (I := fun e' H' => PSt (intCells [.i64, .i64, .i64] zs) (nx1 + 5) oa zs.length i i e' H') ?_ ?_
    · refine n_seq ?_
      repeat (first | with_reducible (first | refine n_on ?_ | refine n_seq ?_ | refine s_else ?_ | refine n_t ?_ | refine n_gt ?_ | refine d_t ?_ | refine n_nil ?_ | refine d_nil ?_ | refine n_block ?_ | refine n_skip ?_ | refine n_bon ?_ | refine n_bback ?_ | refine n_back ?_ | refine n_out ?_ | refine n_bout rfl ?_ | refine n_bfar rfl ?_ | refine n_ret ?_ | refine n_exit ?_ | refine n_label ?_ | refine n_scope ?_ | refine n_son ?_ | refine n_sback ?_) | (with_reducible (first | apply n_region | apply d_region); (simp only [JV, JU, JW, Nat.reduceAdd, Nat.zero_add]; exact rfl)) | (with_reducible (first | apply s_op | apply n_guard | apply n_cond | apply d_guard | apply d_op | apply n_fin | apply n_finb); (simp (maxDischargeDepth := 6) only [sy3.1, zY, qG, qP, qQ, qR, qS, qT, rowAt, ↓jg, ↓ji, Nat.reduceAdd, Nat.reduceEqDiff, ne_eq, jG, Nat.reduceLT, if_true, ite_true, Int.reduceLE, Int.reduceLT, Int.reduceEq, Int.reduceNeg, Int.reduceAdd, Nat.reduceSub, if_false, ite_false, fs_3.1, g1, g9, l1, l2, kind_pure, kind_load, kind_fresh, kind_other, jg, ji, undef]; first | exact rfl | exact ⟨rfl, rfl, rfl, rfl⟩); try (with_reducible refine calmK_in ?_; decide +kernel)))
      refine ⟨_, _, rfl, o4, _, lg4, ip4, a4, b4, st4, ra4, rb4, rfl, M.more (by omega) fun _ _ => rfl, hG, hsl, E.turn ?_ ?_ ?_ ?_⟩ <;> simp only [qC, qD, qE, qF, Tr.get_nil, ne_eq, not_false_eq_true, Nat.reduceEqDiff]
    · rintro e5 H5 h5
      refine y_cut (I := fun e' H' => PSt (intCells [.i64, .i64, .i64] zs) (nx1 + 5) oa zs.length i (i + 1) e' H') ?_ ?_
      · refine n_block ?_
        refine (pl_body hzs h5 hin.2 hin.1 (hoa (by omega))).mono ?_
        rintro _ ⟨e', H', rfl, hh⟩
        exact ⟨e', H', rfl, hh⟩
      · rintro e6 H6 ⟨o7, nx7, lg7, ip7, a7, b7, st7, ra7, rb7, rfl, M7, hG7, hsl7, E7⟩
        have g9 := E7.g9
        have hw1 : IntKind.i64.wrap (Int.ofNat i + 1) = Int.ofNat (i + 1) := by rw [wrap_small _ (by simp only [Int.ofNat_eq_natCast]; omega) (by simp only [Int.ofNat_eq_natCast]; omega)]; rfl
        refine n_region (by simp only [JV, JU, JW, Nat.reduceAdd, Nat.zero_add]; exact rfl) ?_
        repeat (first | with_reducible (first | refine n_on ?_ | refine n_seq ?_ | refine s_else ?_ | refine n_t ?_ | refine n_gt ?_ | refine d_t ?_ | refine n_nil ?_ | refine d_nil ?_ | refine n_block ?_ | refine n_skip ?_ | refine n_bon ?_ | refine n_bback ?_ | refine n_back ?_ | refine n_out ?_ | refine n_bout rfl ?_ | refine n_bfar rfl ?_ | refine n_ret ?_ | refine n_exit ?_ | refine n_label ?_ | refine n_scope ?_ | refine n_son ?_ | refine n_sback ?_) | (with_reducible (first | apply n_region | apply d_region); (simp only [JV, JU, JW, Nat.reduceAdd, Nat.zero_add]; exact rfl)) | (with_reducible (first | apply s_op | apply n_guard | apply n_cond | apply d_guard | apply d_op | apply n_fin | apply n_finb); (simp (maxDischargeDepth := 6) only [sy3.1, zY, qG, qP, qQ, qR, qS, qT, rowAt, ↓jg, ↓ji, Nat.reduceAdd, Nat.reduceEqDiff, ne_eq, jG, Nat.reduceLT, if_true, ite_true, Int.reduceLE, Int.reduceLT, Int.reduceEq, Int.reduceNeg, Int.reduceAdd, Nat.reduceSub, if_false, ite_false, fs_3.1, g9, hw1, kind_pure, kind_load, kind_fresh, kind_other, jg, ji, undef]; first | exact rfl | exact ⟨rfl, rfl, rfl, rfl⟩); try (with_reducible refine calmK_in ?_; decide +kernel)))
        refine ⟨q - 1, by omega, i + 1, by omega, o7, _, lg7, ip7, a7, b7, st7, ra7, rb7, rfl, M7.more (by omega) fun _ _ => rfl, hG7, hsl7, ⟨?_, ?_, ?_, ?_⟩⟩ <;> simp only [qC, qD, qE, qF, Tr.get_nil, ne_eq, not_false_eq_true, Nat.reduceEqDiff] <;> first | exact E7.g1 | exact E7.g5 | exact E7.g7
  · cases l1 : decide (i < zs.length) with
    | false =>
      repeat (first | with_reducible (first | refine n_on ?_ | refine n_seq ?_ | refine s_else ?_ | refine n_t ?_ | refine n_gt ?_ | refine d_t ?_ | refine n_nil ?_ | refine d_nil ?_ | refine n_block ?_ | refine n_skip ?_ | refine n_bon ?_ | refine n_bback ?_ | refine n_back ?_ | refine n_out ?_ | refine n_bout rfl ?_ | refine n_bfar rfl ?_ | refine n_ret ?_ | refine n_exit ?_ | refine n_label ?_ | refine n_scope ?_ | refine n_son ?_ | refine n_sback ?_) | (with_reducible (first | apply n_region | apply d_region); (simp only [JV, JU, JW, Nat.reduceAdd, Nat.zero_add]; exact rfl)) | (with_reducible (first | apply s_op | apply n_guard | apply n_cond | apply d_guard | apply d_op | apply n_fin | apply n_finb); (simp (maxDischargeDepth := 6) only [sy3.1, zY, qG, qP, qQ, qR, qS, qT, rowAt, ↓jg, ↓ji, Nat.reduceAdd, Nat.reduceEqDiff, ne_eq, jG, Nat.reduceLT, if_true, ite_true, Int.reduceLE, Int.reduceLT, Int.reduceEq, Int.reduceNeg, Int.reduceAdd, Nat.reduceSub, if_false, ite_false, fs_3.1, g1, g9, l1, aw, kind_pure, kind_load, kind_fresh, kind_other, jg, ji, undef]; first | exact rfl | exact ⟨rfl, rfl, rfl, rfl⟩); try (with_reducible refine calmK_in ?_; decide +kernel)))
      exact leave_fst _ _ _
    | true =>
      have hil := of_decide_eq_true l1
      have l2 : decide (Int.ofNat i < 60) = false := decide_eq_false (by simp only [Int.ofNat_eq_natCast]; omega)
      repeat (first | with_reducible (first | refine n_on ?_ | refine n_seq ?_ | refine s_else ?_ | refine n_t ?_ | refine n_gt ?_ | refine d_t ?_ | refine n_nil ?_ | refine d_nil ?_ | refine n_block ?_ | refine n_skip ?_ | refine n_bon ?_ | refine n_bback ?_ | refine n_back ?_ | refine n_out ?_ | refine n_bout rfl ?_ | refine n_bfar rfl ?_ | refine n_ret ?_ | refine n_exit ?_ | refine n_label ?_ | refine n_scope ?_ | refine n_son ?_ | refine n_sback ?_) | (with_reducible (first | apply n_region | apply d_region); (simp only [JV, JU, JW, Nat.reduceAdd, Nat.zero_add]; exact rfl)) | (with_reducible (first | apply s_op | apply n_guard | apply n_cond | apply d_guard | apply d_op | apply n_fin | apply n_finb); (simp (maxDischargeDepth := 6) only [sy3.1, zY, qG, qP, qQ, qR, qS, qT, rowAt, ↓jg, ↓ji, Nat.reduceAdd, Nat.reduceEqDiff, ne_eq, jG, Nat.reduceLT, if_true, ite_true, Int.reduceLE, Int.reduceLT, Int.reduceEq, Int.reduceNeg, Int.reduceAdd, Nat.reduceSub, if_false, ite_false, fs_3.1, g1, g9, l1, l2, aw, kind_pure, kind_load, kind_fresh, kind_other, jg, ji, undef]; first | exact rfl | exact ⟨rfl, rfl, rfl, rfl⟩); try (with_reducible refine calmK_in ?_; decide +kernel)))
      exact leave_fst _ _ _
theorem plays_walk (a0 : Int) (a1 : Option Addr) (len1 cap1 : Nat) (zs : List (List Int)) (hl : zs.length = len1) (hz : ∀ y ∈ zs, y.length = 3) (w : World) (hr : CellRow w a1 len1 cap1 (intCells [.i64, .i64, .i64] zs)) :
    Calls Try.prog 3 #[.int .i64 a0, .slice a1 len1 cap1] w fun e w' => e = .returned (.bool true) ∧ Below w.heap.size w w' := by
  subst hl
  refine true_of_v O12_sound (by kernel_rfl) 1000 _ [.fl (.int .i64 a0), .sl a1 zs.length cap1 (intCells [.i64, .i64, .i64] zs)] w (fun g hg => ?_) (plays_run a0 _ zs hz (fun h0 => ?_) _ ((vH_get [.fl (.int .i64 a0), .sl a1 zs.length cap1 (intCells [.i64, .i64, .i64] zs)] 1).trans rfl))
  · simp only [List.mem_cons, List.not_mem_nil, or_false] at hg
    rcases hg with rfl | rfl
    · rfl
    · refine ⟨hr, ?_⟩
      rw [List.all_eq_true]
      intro v hv
      obtain ⟨y, _, hv⟩ := List.mem_flatMap.1 hv
      obtain ⟨p, _, rfl⟩ := List.mem_map.1 hv
      rfl
  · rcases hr with ⟨_, h, _⟩ | ⟨x, rfl, _⟩
    · omega
    · rfl
end Go.Proofs.Yticeabhilkceiaa
