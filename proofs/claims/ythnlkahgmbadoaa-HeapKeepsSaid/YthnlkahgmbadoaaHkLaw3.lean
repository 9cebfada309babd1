/- HeapKeeps: what is there is turned, or goes. -/
import Derived.Test.YthnlkahgmbadoaaHkLaw2
namespace Go.Proofs.Ythnlkahgmbadoaa
open Go.RowKit
set_option linter.unusedSimpArgs false
set_option linter.unusedVariables false
set_option maxRecDepth 100000

section
variable {zs : List (List Value)} {L : HkB} {oa : Option Addr} {cnt i : Nat} {e : Tr Value} {o : Tr AObj} {nx : Nat} {lg : List Nat} {w : Nat → Nat} {B : HB} {hs : HS} {es : List MapEntry} {c : Nat} {sl : Value} {ls : List VV} {k a b c' n : Int} {s : ByteArray} {v : VV} {p : Nat}
theorem HkIn.wider (M : HkIn zs L cnt o nx w B hs es c sl ls) : HkIn zs L (cnt + 1) o nx w B hs es c sl ls :=
  ⟨M.heap, M.hB, M.K.wider (by omega), M.w0, M.wm, M.w1, M.ltm, M.lt1, M.m0, M.n0, M.ne, M.row, M.one, M.want, M.kv, M.lst, Nat.le_succ_of_le M.lsn⟩
/-- the heap is turned by a call, then the map of what is there -/
theorem HkIn.turned (M : HkIn zs L cnt o nx w B hs es c sl ls) {o1 : Tr AObj} {nx1 : Nat} {w1 : Nat → Nat} {B1 : HB} {hs1 : HS} (hH1 : HeapIn o1 nx1 w1 B1 hs1) (hB1 : B1.i = L.bi) (hn : nx ≤ nx1) (hfr : ∀ x, x < nx → w x = 0 → o1.get x = o.get x ∧ w1 x = 0) (K1 : KP hs1 (2 * (cnt + 1)))
    {o2 : Tr AObj} {nx2 : Nat} {es' : List MapEntry} {c2 : Nat} (hn2 : nx1 ≤ nx2) (h2 : ∀ x, x < nx1 → x ≠ L.mw → o2.get x = o1.get x) (hm : o2.get L.mw = some (.map es' c2)) (hkv : MapIs vv es' (wantKV hs1.objs)) : HkIn zs L (cnt + 1) o2 nx2 w1 B1 hs1 es' c2 sl ls := by
  have a1 := M.ltm; have a2 := M.lt1; have a3 := M.m0; have a4 := M.n0; have a5 := M.ne
  have hwm := (hfr _ M.ltm M.wm).2
  refine ⟨hH1.keep hn2 (fun x hx => Nat.lt_of_lt_of_le (hH1.wlt x hx) hn2) fun x hx => ⟨h2 x (hH1.wlt x hx) fun e => hx (by rw [e]; exact hwm), rfl⟩, hB1, K1, (hfr 0 (by omega) M.w0).2, hwm, (hfr _ M.lt1 M.w1).2, by omega, by omega, a3, a4, a5, ?_, ?_, hm, hkv, ?_, Nat.le_succ_of_le M.lsn⟩
  · rw [h2 0 (by omega) (by omega), (hfr 0 (by omega) M.w0).1]; exact M.row
  · rw [h2 _ (by omega) a5, (hfr _ M.lt1 M.w1).1]; exact M.one
  · refine M.lst.imp id fun ⟨j, q1, q2, q3, q4, q5, q6, q7, q8⟩ => ⟨j, q1, by omega, (hfr j q2 q3).2, q4, q5, q6, ?_, q8⟩
    rw [h2 j (by omega) q5, (hfr j q2 q3).1]; exact q7
theorem bffe : (!(false == false)) = false := rfl
theorem btte : (!(true == true)) = false := rfl
/-- nothing of these -/
theorem hk_c0 (M : HkIn zs L cnt o nx w B hs es c sl ls) (E : HkE zs.length L oa i sl e) (D : HkMid (opCells k a b c' n s) i v p o nx w hs e) (h4 : ¬ k < 9) (h13 : k ≠ 13) :
    Got (rCode Try.prog (oCall Try.prog [] O14 999) 999 (hkB2 Try.f4) e ⟨o, nx, lg⟩) fun s => ∃ e' H', s = (.on, e', H') ∧ HkSt zs L oa (cnt + 1) i e' H' := by
  obtain ⟨q9, g9, _, l9, r9⟩ := D.g9
  unfold opCells at r9
  refine n_block ?_
  repeat (first | with_reducible (first | refine n_on ?_ | refine n_seq ?_ | refine s_else ?_ | refine n_t ?_ | refine n_gt ?_ | refine d_t ?_ | refine n_nil ?_ | refine d_nil ?_ | refine n_block ?_ | refine n_skip ?_ | refine n_bon ?_ | refine n_bback ?_ | refine n_back ?_ | refine n_out ?_ | refine n_bout rfl ?_ | refine n_bfar rfl ?_ | refine n_ret ?_ | refine n_exit ?_ | refine n_label ?_ | refine n_scope ?_ | refine n_son ?_ | refine n_sback ?_) | (with_reducible (first | apply n_region | apply d_region); (simp only [JV, JU, JW, Nat.reduceAdd, Nat.zero_add]; exact rfl)) | (with_reducible (first | apply s_op | apply n_guard | apply n_cond | apply d_guard | apply d_op | apply n_fin | apply n_finb); (simp (maxDischargeDepth := 6) only [sy3.1, zY, qG, qP, qQ, qR, qS, qT, rowAt, ↓jg, ↓ji, Nat.reduceAdd, Nat.reduceEqDiff, ne_eq, jG, Nat.reduceLT, if_true, ite_true, Int.reduceLE, Int.reduceLT, Int.reduceEq, Int.reduceNeg, Int.reduceAdd, Nat.reduceSub, if_false, ite_false, fs_4.1, g9, r9, decide_eq_false (show ¬ k < 4 by omega), decide_eq_false h4, decide_eq_false h13, kind_pure, kind_load, kind_fresh, kind_other, jg, ji, undef]; first | exact rfl | exact ⟨rfl, rfl, rfl, rfl⟩); try (with_reducible refine calmK_in ?_; decide +kernel)))
  refine ⟨_, _, rfl, ⟨_, _, _, _, _, _, _, _, _, _, rfl, M.wider.more (by omega) fun _ _ => rfl, ⟨?_, ?_, ?_, ?_, ?_, ?_⟩⟩⟩ <;> simp only [qC, qD, qE, qF, Tr.get_nil, ne_eq, not_false_eq_true, Nat.reduceEqDiff, E.g0, E.g3, E.g5, E.g6, E.g7, E.g8]
set_option maxHeartbeats 32000000 in
/-- an object is freed -/
theorem hk_c3 (M : HkIn zs L cnt o nx w B hs es c sl ls) (E : HkE zs.length L oa i sl e) (D : HkMid (opCells k a b c' n s) i v p o nx w hs e) (hk : k = 13) (hcnt : cnt ≤ 150) :
    Got (rCode Try.prog (oCall Try.prog [] O14 999) 999 (hkB2 Try.f4) e ⟨o, nx, lg⟩) fun s => ∃ e' H', s = (.on, e', H') ∧ HkSt zs L oa (cnt + 1) i e' H' := by
  obtain ⟨q9, g9, _, l9, r9⟩ := D.g9
  obtain ⟨q11, g11, p11, l11, r11⟩ := D.g11
  have g13 := D.g13
  have g0 := E.g0; have g3 := E.g3; have g5 := E.g5; have g6 := E.g6; have g7 := E.g7; have g8 := E.g8
  unfold opCells at r9
  refine n_block ?_
  repeat (first | with_reducible (first | refine n_on ?_ | refine n_seq ?_ | refine s_else ?_ | refine n_t ?_ | refine n_gt ?_ | refine d_t ?_ | refine n_nil ?_ | refine d_nil ?_ | refine n_block ?_ | refine n_skip ?_ | refine n_bon ?_ | refine n_bback ?_ | refine n_back ?_ | refine n_out ?_ | refine n_bout rfl ?_ | refine n_bfar rfl ?_ | refine n_ret ?_ | refine n_exit ?_ | refine n_label ?_ | refine n_scope ?_ | refine n_son ?_ | refine n_sback ?_) | (with_reducible (first | apply n_region | apply d_region); (simp only [JV, JU, JW, Nat.reduceAdd, Nat.zero_add]; exact rfl)) | (with_reducible (first | apply s_op | apply n_guard | apply n_cond | apply d_guard | apply d_op | apply n_fin | apply n_finb); (simp (maxDischargeDepth := 6) only [sy3.1, zY, qG, qP, qQ, qR, qS, qT, rowAt, ↓jg, ↓ji, Nat.reduceAdd, Nat.reduceEqDiff, ne_eq, jG, Nat.reduceLT, if_true, ite_true, Int.reduceLE, Int.reduceLT, Int.reduceEq, Int.reduceNeg, Int.reduceAdd, Nat.reduceSub, if_false, ite_false, fs_4.1, g3, g9, r9, g11, r11, decide_eq_false (show ¬ k < 4 by omega), decide_eq_false (show ¬ k < 9 by omega), decide_eq_true hk, kind_pure, kind_load, kind_fresh, kind_other, jg, ji, undef]; first | exact rfl | exact ⟨rfl, rfl, rfl, rfl⟩); try (with_reducible refine calmK_in ?_; decide +kernel)))
  refine s_do _ (by
    simp (maxDischargeDepth := 6) only [sy3.1, zY, qG, qP, qQ, qR, qS, qT, rowAt, ↓jg, ↓ji, Nat.reduceAdd, Nat.reduceEqDiff, ne_eq, jG, Nat.reduceLT, if_true, ite_true, Int.reduceLE, Int.reduceLT, Int.reduceEq, Int.reduceNeg, Int.reduceAdd, Nat.reduceSub, if_false, ite_false, fs_4.1, g3, g11, r11, ← M.hB]
    exact free_ok (n := 995) clear14 (M.heap.more (by omega) fun _ _ => rfl) M.K.good v (by have := M.K.sizes; omega)) ?_
  rintro v1 H1 ⟨o1, nx1, lg1, w1, B1, heq, hn1, hH1, hB1, hfr, hmo, hl⟩
  cases heq
  have hfr' : ∀ x, x < nx → w x = 0 → o1.get x = o.get x ∧ w1 x = 0 := fun x hx hw => hfr x (by omega) hw
  have hms : o1.get L.mw = some (.map es c) := (hfr _ (by have := M.ltm; omega) M.wm).1.trans M.want
  have hml : L.mw < nx1 := by have := M.ltm; omega
  have r11' := (hfr q11 (by omega) (D.new q11 p11)).1.trans r11
  have l11' : q11 < nx1 := by omega
  obtain ⟨es', hdel, hmap'⟩ := map_del key_vv Try.underlying42 M.kv L.mw c v
  unfold vv at hdel
  rcases M.K.find v with ⟨hv, hf⟩ | ⟨ob, hf, hm, hkd, hsh, hv⟩
  · rw [free_none hf] at hH1 ⊢
    rw [decide_eq_false hv] at g13
    rw [want_same hv] at hmap'
    repeat (first | with_reducible (first | refine n_on ?_ | refine n_seq ?_ | refine s_else ?_ | refine n_t ?_ | refine n_gt ?_ | refine d_t ?_ | refine n_nil ?_ | refine d_nil ?_ | refine n_block ?_ | refine n_skip ?_ | refine n_bon ?_ | refine n_bback ?_ | refine n_back ?_ | refine n_out ?_ | refine n_bout rfl ?_ | refine n_bfar rfl ?_ | refine n_ret ?_ | refine n_exit ?_ | refine n_label ?_ | refine n_scope ?_ | refine n_son ?_ | refine n_sback ?_) | (with_reducible (first | apply n_region | apply d_region); (simp only [JV, JU, JW, Nat.reduceAdd, Nat.zero_add]; exact rfl)) | (with_reducible (first | apply s_op | apply n_guard | apply n_cond | apply d_guard | apply d_op | apply n_fin | apply n_finb); (simp (maxDischargeDepth := 6) only [sy3.1, zY, qG, qP, qQ, qR, qS, qT, rowAt, ↓jg, ↓ji, Nat.reduceAdd, Nat.reduceEqDiff, ne_eq, jG, Nat.reduceLT, if_true, ite_true, Int.reduceLE, Int.reduceLT, Int.reduceEq, Int.reduceNeg, Int.reduceAdd, Nat.reduceSub, if_false, ite_false, fs_4.1, g3, g5, g13, g11, r11', l11', hms, hml, st_delete, hdel, bffe, btte, kind_pure, kind_load, kind_fresh, kind_other, jg, ji, undef]; first | exact rfl | exact ⟨rfl, rfl, rfl, rfl⟩); try (with_reducible refine calmK_in ?_; decide +kernel)))
    refine ⟨_, _, rfl, ⟨_, _, _, _, _, _, _, _, _, _, rfl, M.turned hH1 (hB1.trans M.hB) (by omega) hfr' (M.K.wider (by omega)) (nx2 := _) (by omega) (fun x hx hxm => by (repeat (first | rw [qE] | rw [qF _ _ _ _ (by omega)]))) (qE _ _ _) hmap', ⟨?_, ?_, ?_, ?_, ?_, ?_⟩⟩⟩ <;> simp only [qC, qD, qE, qF, Tr.get_nil, ne_eq, not_false_eq_true, Nat.reduceEqDiff, g0, g3, g5, g6, g7, g8]
  · obtain ⟨f1, f2, f3⟩ := kp_free M.K v hf
    rw [f1]
    rw [decide_eq_true hv] at g13
    rw [want_del M.K.good v hv, ← f3] at hmap'
    repeat (first | with_reducible (first | refine n_on ?_ | refine n_seq ?_ | refine s_else ?_ | refine n_t ?_ | refine n_gt ?_ | refine d_t ?_ | refine n_nil ?_ | refine d_nil ?_ | refine n_block ?_ | refine n_skip ?_ | refine n_bon ?_ | refine n_bback ?_ | refine n_back ?_ | refine n_out ?_ | refine n_bout rfl ?_ | refine n_bfar rfl ?_ | refine n_ret ?_ | refine n_exit ?_ | refine n_label ?_ | refine n_scope ?_ | refine n_son ?_ | refine n_sback ?_) | (with_reducible (first | apply n_region | apply d_region); (simp only [JV, JU, JW, Nat.reduceAdd, Nat.zero_add]; exact rfl)) | (with_reducible (first | apply s_op | apply n_guard | apply n_cond | apply d_guard | apply d_op | apply n_fin | apply n_finb); (simp (maxDischargeDepth := 6) only [sy3.1, zY, qG, qP, qQ, qR, qS, qT, rowAt, ↓jg, ↓ji, Nat.reduceAdd, Nat.reduceEqDiff, ne_eq, jG, Nat.reduceLT, if_true, ite_true, Int.reduceLE, Int.reduceLT, Int.reduceEq, Int.reduceNeg, Int.reduceAdd, Nat.reduceSub, if_false, ite_false, fs_4.1, g3, g5, g13, g11, r11', l11', hms, hml, st_delete, hdel, bffe, btte, kind_pure, kind_load, kind_fresh, kind_other, jg, ji, undef]; first | exact rfl | exact ⟨rfl, rfl, rfl, rfl⟩); try (with_reducible refine calmK_in ?_; decide +kernel)))
    refine ⟨_, _, rfl, ⟨_, _, _, _, _, _, _, _, _, _, rfl, M.turned hH1 (hB1.trans M.hB) (by omega) hfr' (f2.wider (by omega)) (nx2 := _) (by omega) (fun x hx hxm => by (repeat (first | rw [qE] | rw [qF _ _ _ _ (by omega)]))) (qE _ _ _) hmap', ⟨?_, ?_, ?_, ?_, ?_, ?_⟩⟩⟩ <;> simp only [qC, qD, qE, qF, Tr.get_nil, ne_eq, not_false_eq_true, Nat.reduceEqDiff, g0, g3, g5, g6, g7, g8]
theorem num9 {ob : Ob} (h : ob.kind = 9) (n : Int) : numOf { ob with has := (3, n) } = n := by unfold numOf; rw [if_pos (by simpa using h)]
theorem num5 {ob : Ob} (h : ob.kind = 5) (n : Int) : numOf { ob with tab := [((3, 1), (3, n))] } = n := by unfold numOf; rw [if_neg (by simp [h])]; rfl
set_option maxHeartbeats 32000000 in
/-- a cell or a table is given something -/
theorem hk_c2 (M : HkIn zs L cnt o nx w B hs es c sl ls) (E : HkE zs.length L oa i sl e) (D : HkMid (opCells k a b c' n s) i v p o nx w hs e) (h4 : ¬ k < 4) (h9 : k < 9) (hcnt : cnt ≤ 150) :
    Got (rCode Try.prog (oCall Try.prog [] O14 999) 999 (hkB2 Try.f4) e ⟨o, nx, lg⟩) fun s => ∃ e' H', s = (.on, e', H') ∧ HkSt zs L oa (cnt + 1) i e' H' := by
  obtain ⟨q9, g9, _, l9, r9⟩ := D.g9
  obtain ⟨q10, g10, p10, l10, r10⟩ := D.g10
  obtain ⟨q11, g11, p11, l11, r11⟩ := D.g11
  have g13 := D.g13
  have g0 := E.g0; have g3 := E.g3; have g5 := E.g5; have g6 := E.g6; have g7 := E.g7; have g8 := E.g8
  have r7 := M.one
  have l7 := M.lt1
  unfold opCells at r9
  have hsz := M.K.sizes
  obtain ⟨es', c2, hput, hmap'⟩ := map_put key_vv Try.underlying42 M.kv L.mw c v (.int .i64 (.ofNat (i + 1)))
  unfold vv at hput
  refine n_block ?_
  by_cases hv9 : v.1 = 9
  · repeat (first | with_reducible (first | refine n_on ?_ | refine n_seq ?_ | refine s_else ?_ | refine n_t ?_ | refine n_gt ?_ | refine d_t ?_ | refine n_nil ?_ | refine d_nil ?_ | refine n_block ?_ | refine n_skip ?_ | refine n_bon ?_ | refine n_bback ?_ | refine n_back ?_ | refine n_out ?_ | refine n_bout rfl ?_ | refine n_bfar rfl ?_ | refine n_ret ?_ | refine n_exit ?_ | refine n_label ?_ | refine n_scope ?_ | refine n_son ?_ | refine n_sback ?_) | (with_reducible (first | apply n_region | apply d_region); (simp only [JV, JU, JW, Nat.reduceAdd, Nat.zero_add]; exact rfl)) | (with_reducible (first | apply s_op | apply n_guard | apply n_cond | apply d_guard | apply d_op | apply n_fin | apply n_finb); (simp (maxDischargeDepth := 6) only [sy3.1, zY, qG, qP, qQ, qR, qS, qT, rowAt, ↓jg, ↓ji, Nat.reduceAdd, Nat.reduceEqDiff, ne_eq, jG, Nat.reduceLT, if_true, ite_true, Int.reduceLE, Int.reduceLT, Int.reduceEq, Int.reduceNeg, Int.reduceAdd, Nat.reduceSub, if_false, ite_false, fs_4.1, g3, g9, r9, g10, r10, g11, r11, decide_eq_false h4, decide_eq_true h9, decide_eq_true hv9, kind_pure, kind_load, kind_fresh, kind_other, jg, ji, undef]; first | exact rfl | exact ⟨rfl, rfl, rfl, rfl⟩); try (with_reducible refine calmK_in ?_; decide +kernel)))
    refine s_do _ (by
      simp (maxDischargeDepth := 6) only [sy3.1, zY, qG, qP, qQ, qR, qS, qT, rowAt, ↓jg, ↓ji, Nat.reduceAdd, Nat.reduceEqDiff, ne_eq, jG, Nat.reduceLT, if_true, ite_true, Int.reduceLE, Int.reduceLT, Int.reduceEq, Int.reduceNeg, Int.reduceAdd, Nat.reduceSub, if_false, ite_false, fs_4.1, g3, g11, r11, g10, r10, ← M.hB]
      exact store_ok (n := 995) clear14 (M.heap.more (by omega) fun _ _ => rfl) M.K.good v (3, .ofNat (i + 1))) ?_
    rintro v1 H1 ⟨o1, nx1, lg1, w1, B1, heq, hn1, hH1, hB1, hfr, hmo, hl⟩
    cases heq
    have hfr' : ∀ x, x < nx → w x = 0 → o1.get x = o.get x ∧ w1 x = 0 := fun x hx hw => hfr x (by omega) hw
    have hms : o1.get L.mw = some (.map es c) := (hfr _ (by have := M.ltm; omega) M.wm).1.trans M.want
    have hml : L.mw < nx1 := by have := M.ltm; omega
    have r11' := (hfr q11 (by omega) (D.new q11 p11)).1.trans r11
    have l11' : q11 < nx1 := by omega
    have r10' := (hfr q10 (by omega) (D.new q10 p10)).1.trans r10
    have l10' : q10 < nx1 := by omega
    rcases M.K.find v with ⟨hv, hf⟩ | ⟨ob, hf, hm, hkd, hsh, hv⟩
    · rw [store_none hf] at hH1 ⊢
      rw [decide_eq_false hv] at g13
      repeat (first | with_reducible (first | refine n_on ?_ | refine n_seq ?_ | refine s_else ?_ | refine n_t ?_ | refine n_gt ?_ | refine d_t ?_ | refine n_nil ?_ | refine d_nil ?_ | refine n_block ?_ | refine n_skip ?_ | refine n_bon ?_ | refine n_bback ?_ | refine n_back ?_ | refine n_out ?_ | refine n_bout rfl ?_ | refine n_bfar rfl ?_ | refine n_ret ?_ | refine n_exit ?_ | refine n_label ?_ | refine n_scope ?_ | refine n_son ?_ | refine n_sback ?_) | (with_reducible (first | apply n_region | apply d_region); (simp only [JV, JU, JW, Nat.reduceAdd, Nat.zero_add]; exact rfl)) | (with_reducible (first | apply s_op | apply n_guard | apply n_cond | apply d_guard | apply d_op | apply n_fin | apply n_finb); (simp (maxDischargeDepth := 6) only [sy3.1, zY, qG, qP, qQ, qR, qS, qT, rowAt, ↓jg, ↓ji, Nat.reduceAdd, Nat.reduceEqDiff, ne_eq, jG, Nat.reduceLT, if_true, ite_true, Int.reduceLE, Int.reduceLT, Int.reduceEq, Int.reduceNeg, Int.reduceAdd, Nat.reduceSub, if_false, ite_false, fs_4.1, g3, g5, g13, g10, r10', l10', g11, r11', l11', hms, hml, bffe, btte, kind_pure, kind_load, kind_fresh, kind_other, jg, ji, undef]; first | exact rfl | exact ⟨rfl, rfl, rfl, rfl⟩); try (with_reducible refine calmK_in ?_; decide +kernel)))
      refine ⟨_, _, rfl, ⟨_, _, _, _, _, _, _, _, _, _, rfl, M.turned hH1 (hB1.trans M.hB) (by omega) hfr' (M.K.wider (by omega)) (nx2 := _) (by omega) (fun x hx hxm => rfl) hms M.kv, ⟨?_, ?_, ?_, ?_, ?_, ?_⟩⟩⟩ <;> simp only [qC, qD, qE, qF, Tr.get_nil, ne_eq, not_false_eq_true, Nat.reduceEqDiff, g0, g3, g5, g6, g7, g8]
    · obtain ⟨f1, f2, f3⟩ := kp_store M.K hv9 hf (.ofNat (i + 1))
      rw [f1]
      rw [decide_eq_true hv] at g13
      have hw := want_set M.K.good (ob' := { ob with has := (3, .ofNat (i + 1)) }) hm hkd hkd
      rw [num9 (hkd.trans hv9), ← f3] at hw
      rw [hw] at hmap'
      repeat (first | with_reducible (first | refine n_on ?_ | refine n_seq ?_ | refine s_else ?_ | refine n_t ?_ | refine n_gt ?_ | refine d_t ?_ | refine n_nil ?_ | refine d_nil ?_ | refine n_block ?_ | refine n_skip ?_ | refine n_bon ?_ | refine n_bback ?_ | refine n_back ?_ | refine n_out ?_ | refine n_bout rfl ?_ | refine n_bfar rfl ?_ | refine n_ret ?_ | refine n_exit ?_ | refine n_label ?_ | refine n_scope ?_ | refine n_son ?_ | refine n_sback ?_) | (with_reducible (first | apply n_region | apply d_region); (simp only [JV, JU, JW, Nat.reduceAdd, Nat.zero_add]; exact rfl)) | (with_reducible (first | apply s_op | apply n_guard | apply n_cond | apply d_guard | apply d_op | apply n_fin | apply n_finb); (simp (maxDischargeDepth := 6) only [sy3.1, zY, qG, qP, qQ, qR, qS, qT, rowAt, ↓jg, ↓ji, Nat.reduceAdd, Nat.reduceEqDiff, ne_eq, jG, Nat.reduceLT, if_true, ite_true, Int.reduceLE, Int.reduceLT, Int.reduceEq, Int.reduceNeg, Int.reduceAdd, Nat.reduceSub, if_false, ite_false, fs_4.1, g3, g5, g13, g10, r10', l10', g11, r11', l11', hms, hml, bffe, btte, hput, kind_pure, kind_load, kind_fresh, kind_other, jg, ji, undef]; first | exact rfl | exact ⟨rfl, rfl, rfl, rfl⟩); try (with_reducible refine calmK_in ?_; decide +kernel)))
      refine ⟨_, _, rfl, ⟨_, _, _, _, _, _, _, _, _, _, rfl, M.turned hH1 (hB1.trans M.hB) (by omega) hfr' (f2.wider (by omega)) (nx2 := _) (by omega) (fun x hx hxm => by (repeat (first | rw [qE] | rw [qF _ _ _ _ (by omega)]))) (qE _ _ _) hmap', ⟨?_, ?_, ?_, ?_, ?_, ?_⟩⟩⟩ <;> simp only [qC, qD, qE, qF, Tr.get_nil, ne_eq, not_false_eq_true, Nat.reduceEqDiff, g0, g3, g5, g6, g7, g8]
  · repeat (first | with_reducible (first | refine n_on ?_ | refine n_seq ?_ | refine s_else ?_ | refine n_t ?_ | refine n_gt ?_ | refine d_t ?_ | refine n_nil ?_ | refine d_nil ?_ | refine n_block ?_ | refine n_skip ?_ | refine n_bon ?_ | refine n_bback ?_ | refine n_back ?_ | refine n_out ?_ | refine n_bout rfl ?_ | refine n_bfar rfl ?_ | refine n_ret ?_ | refine n_exit ?_ | refine n_label ?_ | refine n_scope ?_ | refine n_son ?_ | refine n_sback ?_) | (with_reducible (first | apply n_region | apply d_region); (simp only [JV, JU, JW, Nat.reduceAdd, Nat.zero_add]; exact rfl)) | (with_reducible (first | apply s_op | apply n_guard | apply n_cond | apply d_guard | apply d_op | apply n_fin | apply n_finb); (simp (maxDischargeDepth := 6) only [sy3.1, zY, qG, qP, qQ, qR, qS, qT, rowAt, ↓jg, ↓ji, Nat.reduceAdd, Nat.reduceEqDiff, ne_eq, jG, Nat.reduceLT, if_true, ite_true, Int.reduceLE, Int.reduceLT, Int.reduceEq, Int.reduceNeg, Int.reduceAdd, Nat.reduceSub, if_false, ite_false, fs_4.1, g3, g9, r9, g10, r10, g11, r11, g7, r7, decide_eq_false h4, decide_eq_true h9, decide_eq_false hv9, kind_pure, kind_load, kind_fresh, kind_other, jg, ji, undef]; first | exact rfl | exact ⟨rfl, rfl, rfl, rfl⟩); try (with_reducible refine calmK_in ?_; decide +kernel)))
    refine s_do _ (by
      simp (maxDischargeDepth := 6) only [sy3.1, zY, qG, qP, qQ, qR, qS, qT, rowAt, ↓jg, ↓ji, Nat.reduceAdd, Nat.reduceEqDiff, ne_eq, jG, Nat.reduceLT, if_true, ite_true, Int.reduceLE, Int.reduceLT, Int.reduceEq, Int.reduceNeg, Int.reduceAdd, Nat.reduceSub, if_false, ite_false, fs_4.1, g3, g11, r11, g10, r10, g7, r7, ← M.hB]
      refine hset_ok (n := 994) clear14 (M.heap.more (by omega) fun _ _ => rfl) M.K.good v (3, 1) (3, .ofNat (i + 1)) (by decide) (by omega) (fun ob ho => ?_)
      obtain ⟨ho1, ho2, ho3⟩ := ofO_look ho
      have hf : findO hs v = some ob := by unfold ofO at ho; rw [if_pos ho1] at ho; exact ho
      obtain ⟨_, _, _, f4, f5⟩ := kp_set M.K ho1 hf (.ofNat (i + 1))
      exact ⟨by omega, by omega, fun _ => f5⟩) ?_
    rintro v1 H1 ⟨o1, nx1, lg1, w1, B1, heq, hn1, hH1, hB1, hfr, hmo, hl⟩
    cases heq
    have hfr' : ∀ x, x < nx → w x = 0 → o1.get x = o.get x ∧ w1 x = 0 := fun x hx hw => hfr x (by omega) hw
    have hms : o1.get L.mw = some (.map es c) := (hfr _ (by have := M.ltm; omega) M.wm).1.trans M.want
    have hml : L.mw < nx1 := by have := M.ltm; omega
    have r11' := (hfr q11 (by omega) (D.new q11 p11)).1.trans r11
    have l11' : q11 < nx1 := by omega
    have r10' := (hfr q10 (by omega) (D.new q10 p10)).1.trans r10
    have l10' : q10 < nx1 := by omega
    rcases M.K.find v with ⟨hv, hf⟩ | ⟨ob, hf, hm, hkd, hsh, hv⟩
    · rw [(set_none hf).2] at hH1 ⊢
      rw [decide_eq_false hv] at g13
      repeat (first | with_reducible (first | refine n_on ?_ | refine n_seq ?_ | refine s_else ?_ | refine n_t ?_ | refine n_gt ?_ | refine d_t ?_ | refine n_nil ?_ | refine d_nil ?_ | refine n_block ?_ | refine n_skip ?_ | refine n_bon ?_ | refine n_bback ?_ | refine n_back ?_ | refine n_out ?_ | refine n_bout rfl ?_ | refine n_bfar rfl ?_ | refine n_ret ?_ | refine n_exit ?_ | refine n_label ?_ | refine n_scope ?_ | refine n_son ?_ | refine n_sback ?_) | (with_reducible (first | apply n_region | apply d_region); (simp only [JV, JU, JW, Nat.reduceAdd, Nat.zero_add]; exact rfl)) | (with_reducible (first | apply s_op | apply n_guard | apply n_cond | apply d_guard | apply d_op | apply n_fin | apply n_finb); (simp (maxDischargeDepth := 6) only [sy3.1, zY, qG, qP, qQ, qR, qS, qT, rowAt, ↓jg, ↓ji, Nat.reduceAdd, Nat.reduceEqDiff, ne_eq, jG, Nat.reduceLT, if_true, ite_true, Int.reduceLE, Int.reduceLT, Int.reduceEq, Int.reduceNeg, Int.reduceAdd, Nat.reduceSub, if_false, ite_false, fs_4.1, g3, g5, g13, g10, r10', l10', g11, r11', l11', hms, hml, bffe, btte, kind_pure, kind_load, kind_fresh, kind_other, jg, ji, undef]; first | exact rfl | exact ⟨rfl, rfl, rfl, rfl⟩); try (with_reducible refine calmK_in ?_; decide +kernel)))
      refine ⟨_, _, rfl, ⟨_, _, _, _, _, _, _, _, _, _, rfl, M.turned hH1 (hB1.trans M.hB) (by omega) hfr' (M.K.wider (by omega)) (nx2 := _) (by omega) (fun x hx hxm => rfl) hms M.kv, ⟨?_, ?_, ?_, ?_, ?_, ?_⟩⟩⟩ <;> simp only [qC, qD, qE, qF, Tr.get_nil, ne_eq, not_false_eq_true, Nat.reduceEqDiff, g0, g3, g5, g6, g7, g8]
    · have hv5 : v.1 = 5 := by
        rcases hsh.holds.2 with h | h <;> omega
      obtain ⟨f1, f2, f3, _⟩ := kp_set M.K hv5 hf (.ofNat (i + 1))
      rw [f1]
      rw [decide_eq_true hv] at g13
      have hw := want_set M.K.good (ob' := { ob with tab := [((3, 1), (3, .ofNat (i + 1)))] }) hm hkd hkd
      rw [num5 (hkd.trans hv5), ← f3] at hw
      rw [hw] at hmap'
      repeat (first | with_reducible (first | refine n_on ?_ | refine n_seq ?_ | refine s_else ?_ | refine n_t ?_ | refine n_gt ?_ | refine d_t ?_ | refine n_nil ?_ | refine d_nil ?_ | refine n_block ?_ | refine n_skip ?_ | refine n_bon ?_ | refine n_bback ?_ | refine n_back ?_ | refine n_out ?_ | refine n_bout rfl ?_ | refine n_bfar rfl ?_ | refine n_ret ?_ | refine n_exit ?_ | refine n_label ?_ | refine n_scope ?_ | refine n_son ?_ | refine n_sback ?_) | (with_reducible (first | apply n_region | apply d_region); (simp only [JV, JU, JW, Nat.reduceAdd, Nat.zero_add]; exact rfl)) | (with_reducible (first | apply s_op | apply n_guard | apply n_cond | apply d_guard | apply d_op | apply n_fin | apply n_finb); (simp (maxDischargeDepth := 6) only [sy3.1, zY, qG, qP, qQ, qR, qS, qT, rowAt, ↓jg, ↓ji, Nat.reduceAdd, Nat.reduceEqDiff, ne_eq, jG, Nat.reduceLT, if_true, ite_true, Int.reduceLE, Int.reduceLT, Int.reduceEq, Int.reduceNeg, Int.reduceAdd, Nat.reduceSub, if_false, ite_false, fs_4.1, g3, g5, g13, g10, r10', l10', g11, r11', l11', hms, hml, bffe, btte, hput, kind_pure, kind_load, kind_fresh, kind_other, jg, ji, undef]; first | exact rfl | exact ⟨rfl, rfl, rfl, rfl⟩); try (with_reducible refine calmK_in ?_; decide +kernel)))
      refine ⟨_, _, rfl, ⟨_, _, _, _, _, _, _, _, _, _, rfl, M.turned hH1 (hB1.trans M.hB) (by omega) hfr' (f2.wider (by omega)) (nx2 := _) (by omega) (fun x hx hxm => by (repeat (first | rw [qE] | rw [qF _ _ _ _ (by omega)]))) (qE _ _ _) hmap', ⟨?_, ?_, ?_, ?_, ?_, ?_⟩⟩⟩ <;> simp only [qC, qD, qE, qF, Tr.get_nil, ne_eq, not_false_eq_true, Nat.reduceEqDiff, g0, g3, g5, g6, g7, g8]
end
end Go.Proofs.Ythnlkahgmbadoaa
