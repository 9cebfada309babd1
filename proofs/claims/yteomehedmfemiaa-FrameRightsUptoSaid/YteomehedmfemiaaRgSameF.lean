/- Frame: two frames of the same parts are told the same (SameFrame). -/
import Derived.Test.YteomehedmfemiaaRgSameV
import Derived.Test.YteomehedmfemiaaRgSameT
set_option linter.unusedSimpArgs false
set_option linter.unusedVariables false
set_option maxRecDepth 100000
namespace Go.Proofs.Yteomehedmfemiaa
open Go.RowKit
/-- a frame -/
abbrev fC (en pr cl st : Int) (s d w v : Value) (pc : Int) (r : Value) (wt : Bool) (wa : Int) : List Value := [.int .u8 en, .int .i64 pr, .int .i64 cl, .int .i64 st, s, d, w, v, .int .i64 pc, r, .bool wt, .int .i64 wa]
abbrev fV (en pr cl st : Int) (s d w v : Value) (pc : Int) (r : Value) (wt : Bool) (wa : Int) : Value := .agg #[.int .u8 en, .int .i64 pr, .int .i64 cl, .int .i64 st, s, d, w, v, .int .i64 pc, r, .bool wt, .int .i64 wa]
section
variable {O : Helps} {n : Nat} {o : Tr AObj} {nx : Nat} {lg : List Nat}
set_option maxHeartbeats 16000000 in
theorem samef_ok (hO : Clear O) {en pr cl st pc wa : Int} {wt : Bool} {s1 s2 d1 d2 w1 w2 v1 v2 r1 r2 : Value} {ls ld lv lr : List VV} {lw : List TT}
    (hs1 : SlV o nx s1 ls) (hs2 : SlV o nx s2 ls) (hd1 : SlV o nx d1 ld) (hd2 : SlV o nx d2 ld) (hw1 : SlT o nx w1 lw) (hw2 : SlT o nx w2 lw) (hv1 : SlV o nx v1 lv) (hv2 : SlV o nx v2 lv) (hr1 : SlV o nx r1 lr) (hr2 : SlV o nx r2 lr)
    (bs : ls.length ≤ 1048576) (bd : ld.length ≤ 1048576) (bw : lw.length ≤ 1048576) (bv : lv.length ≤ 1048576) (br : lr.length ≤ 1048576) :
    oCall Try.prog [] O (n + 2000001) 17 [fV en pr cl st s1 d1 w1 v1 pc r1 wt wa, fV en pr cl st s2 d2 w2 v2 pc r2 wt wa] ⟨o, nx, lg⟩ = some (.bool true, ⟨o, nx, lg⟩) := by
  refine of_got ?_
  rw [y_fn (rs := [.tmp 4]) (hO _ (by decide)) Try.func17 rfl (by kernel_rfl) rfl rfl]
  refine y_cut (I := fun e H => ∃ o2 nx2, H = (⟨o2, nx2, []⟩ : AHeap) ∧ nx + 2 ≤ nx2 ∧ (∀ x, x < nx → o2.get x = o.get x) ∧ o2.get nx = some (.row (fC en pr cl st s1 d1 w1 v1 pc r1 wt wa) 29 0 true) ∧ o2.get (nx + 1) = some (.row (fC en pr cl st s2 d2 w2 v2 pc r2 wt wa) 29 0 true) ∧ e.get 2 = some (.pointer (some ⟨nx, 0, none⟩)) ∧ e.get 3 = some (.pointer (some ⟨nx + 1, 0, none⟩))) ?_ ?_
  · repeat (first | with_reducible (first | refine n_on ?_ | refine n_seq ?_ | refine s_else ?_ | refine n_t ?_ | refine n_gt ?_ | refine d_t ?_ | refine n_nil ?_ | refine d_nil ?_ | refine n_block ?_ | refine n_skip ?_ | refine n_bon ?_ | refine n_bback ?_ | refine n_back ?_ | refine n_out ?_ | refine n_bout rfl ?_ | refine n_bfar rfl ?_ | refine n_ret ?_ | refine n_exit ?_ | refine n_label ?_ | refine n_scope ?_ | refine n_son ?_ | refine n_sback ?_) | (with_reducible (first | apply n_region | apply d_region); (simp only [JV, JU, JW, Nat.reduceAdd, Nat.zero_add]; exact rfl)) | (with_reducible (first | apply s_op | apply n_guard | apply n_cond | apply d_guard | apply d_op | apply n_fin | apply n_finb); (simp (maxDischargeDepth := 6) only [sy3.1, zY, qG, qP, qQ, qR, qS, qT, rowAt, ↓jg, ↓ji, Nat.reduceAdd, Nat.reduceEqDiff, ne_eq, jG, Nat.reduceLT, if_true, ite_true, Int.reduceLE, Int.reduceLT, Int.reduceEq, Int.reduceNeg, Int.reduceAdd, Nat.reduceSub, if_false, ite_false, fs_17.1, bs, kind_pure, kind_load, kind_fresh, kind_other, jg, ji, undef]; first | exact rfl | exact ⟨rfl, rfl, rfl, rfl⟩); try (with_reducible refine calmK_in ?_; decide +kernel)))
    refine ⟨_, _, rfl, _, _, rfl, by omega, ?_, ?_, ?_, ?_, ?_⟩
    · intro x hx; (repeat (first | rw [qE] | rw [qF _ _ _ _ (by omega)]))
    · (repeat (first | rw [qE] | rw [qF _ _ _ _ (by omega)]))
    · (repeat (first | rw [qE] | rw [qF _ _ _ _ (by omega)]))
    · simp only [qG, qC, qD, qE, qF, Tr.get_nil, ne_eq, not_false_eq_true, Nat.reduceEqDiff]
    · simp only [qG, qC, qD, qE, qF, Tr.get_nil, ne_eq, not_false_eq_true, Nat.reduceEqDiff]
  · rintro e H ⟨o2, nx2, rfl, hn2, hold, g0, g1, e2, e3⟩
    have hS := fun (q : Nat) (L1 : List Nat) => sameV_ok (n := n) (o := o2) (nx := nx2 + q) (lg := L1) hO (hs1.keep (by omega) hold) (hs2.keep (by omega) hold) bs bs
    have hD := fun (q : Nat) (L1 : List Nat) => sameV_ok (n := n) (o := o2) (nx := nx2 + q) (lg := L1) hO (hd1.keep (by omega) hold) (hd2.keep (by omega) hold) bd bd
    have hW := fun (q : Nat) (L1 : List Nat) => sameT_ok (n := n) (o := o2) (nx := nx2 + q) (lg := L1) hO (hw1.keep (by omega) hold) (hw2.keep (by omega) hold) bw bw
    have hV := fun (q : Nat) (L1 : List Nat) => sameV_ok (n := n) (o := o2) (nx := nx2 + q) (lg := L1) hO (hv1.keep (by omega) hold) (hv2.keep (by omega) hold) bv bv
    have hR := fun (q : Nat) (L1 : List Nat) => sameV_ok (n := n) (o := o2) (nx := nx2 + q) (lg := L1) hO (hr1.keep (by omega) hold) (hr2.keep (by omega) hold) br br
    have c1 : decide (en = en) = true := decide_eq_true rfl
    have c2 : decide (pr = pr) = true := decide_eq_true rfl
    have c3 : decide (cl = cl) = true := decide_eq_true rfl
    have c4 : decide (st = st) = true := decide_eq_true rfl
    have c5 : decide (pc = pc) = true := decide_eq_true rfl
    have c6 : decide (wa = wa) = true := decide_eq_true rfl
    have c7 : decide (ls = ls) = true := decide_eq_true rfl
    have c8 : decide (ld = ld) = true := decide_eq_true rfl
    have c9 : decide (lw = lw) = true := decide_eq_true rfl
    have c10 : decide (lv = lv) = true := decide_eq_true rfl
    have c11 : decide (lr = lr) = true := decide_eq_true rfl
    have c12 : (wt == wt) = true := by cases wt <;> rfl
    have m0 : nx < nx2 := by omega
    have m1 : nx + 1 < nx2 := by omega
    refine n_seq ?_
    with_reducible apply n_region
    · simp only [JV, JU, JW, Nat.reduceAdd, Nat.zero_add]; exact rfl
    simp only [List.toList_toArray]
    rw [JT]
    simp only [JV, JU, Nat.reduceAdd, Nat.zero_add]
    repeat (first | with_reducible (first | refine n_on ?_ | refine n_seq ?_ | refine s_else ?_ | refine n_t ?_ | refine n_gt ?_ | refine d_t ?_ | refine n_nil ?_ | refine d_nil ?_ | refine n_block ?_ | refine n_skip ?_ | refine n_bon ?_ | refine n_bback ?_ | refine n_back ?_ | refine n_out ?_ | refine n_bout rfl ?_ | refine n_bfar rfl ?_ | refine n_ret ?_ | refine n_exit ?_ | refine n_label ?_ | refine n_scope ?_ | refine n_son ?_ | refine n_sback ?_) | (with_reducible (first | apply n_region | apply d_region); (simp only [JV, JU, JW, Nat.reduceAdd, Nat.zero_add]; exact rfl)) | (with_reducible (first | apply s_op | apply n_guard | apply n_cond | apply d_guard | apply d_op | apply n_fin | apply n_finb); (simp (maxDischargeDepth := 6) only [sy3.1, zY, qG, qP, qQ, qR, qS, qT, rowAt, ↓jg, ↓ji, Nat.reduceAdd, Nat.reduceEqDiff, ne_eq, jG, Nat.reduceLT, if_true, ite_true, Int.reduceLE, Int.reduceLT, Int.reduceEq, Int.reduceNeg, Int.reduceAdd, Nat.reduceSub, if_false, ite_false, fs_17.1, g0, g1, e2, e3, m0, m1, hS, hD, hW, hV, hR, c1, c2, c3, c4, c5, c6, c7, c8, c9, c10, c11, c12, kind_pure, kind_load, kind_fresh, kind_other, jg, ji, undef]; first | exact rfl | exact ⟨rfl, rfl, rfl, rfl⟩); try (with_reducible refine calmK_in ?_; decide +kernel)))
    rw [zB]
    dsimp only
    repeat (first | with_reducible (first | refine n_on ?_ | refine n_seq ?_ | refine s_else ?_ | refine n_t ?_ | refine n_gt ?_ | refine d_t ?_ | refine n_nil ?_ | refine d_nil ?_ | refine n_block ?_ | refine n_skip ?_ | refine n_bon ?_ | refine n_bback ?_ | refine n_back ?_ | refine n_out ?_ | refine n_bout rfl ?_ | refine n_bfar rfl ?_ | refine n_ret ?_ | refine n_exit ?_ | refine n_label ?_ | refine n_scope ?_ | refine n_son ?_ | refine n_sback ?_) | (with_reducible (first | apply n_region | apply d_region); (simp only [JV, JU, JW, Nat.reduceAdd, Nat.zero_add]; exact rfl)) | (with_reducible (first | apply s_op | apply n_guard | apply n_cond | apply d_guard | apply d_op | apply n_fin | apply n_finb); (simp (maxDischargeDepth := 6) only [sy3.1, zY, qG, qP, qQ, qR, qS, qT, rowAt, ↓jg, ↓ji, Nat.reduceAdd, Nat.reduceEqDiff, ne_eq, jG, Nat.reduceLT, if_true, ite_true, Int.reduceLE, Int.reduceLT, Int.reduceEq, Int.reduceNeg, Int.reduceAdd, Nat.reduceSub, if_false, ite_false, fs_17.1, g0, g1, e2, e3, m0, m1, hS, hD, hW, hV, hR, c1, c2, c3, c4, c5, c6, c7, c8, c9, c10, c11, c12, kind_pure, kind_load, kind_fresh, kind_other, jg, ji, undef]; first | exact rfl | exact ⟨rfl, rfl, rfl, rfl⟩); try (with_reducible refine calmK_in ?_; decide +kernel)))
    try exact Ja (by simp only [all_relogL, js, ju, List.all_nil, jt, Bool.and_self]) (by rfl)
end
end Go.Proofs.Yteomehedmfemiaa
