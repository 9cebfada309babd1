/- Frame: a function's cells, Up, on the abstract machine. -/
import Derived.Test.YtckahbnkdiamjaaFrSet
namespace Go.Proofs.Ytckahbnkdiamjaa
open Go.RowKit
set_option linter.unusedSimpArgs false
set_option linter.unusedVariables false
set_option maxRecDepth 100000

def cellF (hs : HS) (cl : Int) (k : Int) : VV × Bool := if cl < 1 ∨ k < 0 ∨ (cellsO hs (6, cl)).length ≤ k ∨ (findO hs ((cellsO hs (6, cl)).getD k.toNat (0, 0))).isSome = false then ((0, 0), false) else ((cellsO hs (6, cl)).getD k.toNat (0, 0), true)
section
variable {O : Helps} {n : Nat} {o : Tr AObj} {nx : Nat} {lg : List Nat} {w : Nat → Nat} {B : HB} {hs : HS} {cl : Int} {a0 a1 a3 a4 a5 a6 a7 a8 a9 a10 a11 : Value}
set_option maxHeartbeats 16000000 in
theorem fcell_ok (hO : Clear O) (hh : HeapIn o nx w B hs) (k : Int) (hl : (cellsO hs (6, cl)).length ≤ 1000000) :
    oCall Try.prog [] O (n + 5) 45 [.pointer (some ⟨B.i, 0, none⟩), .agg #[a0, a1, .int .i64 cl, a3, a4, a5, a6, a7, a8, a9, a10, a11], .int .i64 k] ⟨o, nx, lg⟩ = some (.tuple #[vv (cellF hs cl k).1, .bool (cellF hs cl k).2], ⟨o, nx, lg⟩) := by
  refine of_got ?_
  obtain ⟨l, hle⟩ : ∃ l, cellsO hs (6, cl) = l := ⟨_, rfl⟩
  unfold cellF
  rw [hle] at hl ⊢
  have hcells := fun (O1 : Tr AObj) (N1 : Nat) (L1 : List Nat) (hN : nx ≤ N1) (hold : ∀ x, x < nx → O1.get x = o.get x) => cells_ok (n := n) (o := O1) (nx := N1) (lg := L1) hO (hh.more hN hold) (6, cl) (by rw [hle]; exact hl)
  rw [hle] at hcells
  rw [y_fn (rs := [.cell 6 41, .tmp 7]) (hO _ (by decide)) Try.func45 rfl (by kernel_rfl) rfl rfl]
  repeat (first | with_reducible (first | refine n_on ?_ | refine n_seq ?_ | refine s_else ?_ | refine n_t ?_ | refine n_gt ?_ | refine d_t ?_ | refine n_nil ?_ | refine d_nil ?_ | refine n_block ?_ | refine n_skip ?_ | refine n_bon ?_ | refine n_bback ?_ | refine n_back ?_ | refine n_out ?_ | refine n_bout rfl ?_ | refine n_bfar rfl ?_ | refine n_ret ?_ | refine n_exit ?_ | refine n_label ?_ | refine n_scope ?_ | refine n_son ?_ | refine n_sback ?_) | (with_reducible (first | apply n_region | apply d_region); (simp only [JV, JU, JW, Nat.reduceAdd, Nat.zero_add]; exact rfl)) | (with_reducible (first | apply s_op | apply n_guard | apply n_cond | apply d_guard | apply d_op | apply n_fin | apply n_finb); (simp (maxDischargeDepth := 6) only [sy3.1, zY, qG, qP, qQ, qR, qS, qT, rowAt, ↓jg, ↓ji, Nat.reduceAdd, Nat.reduceEqDiff, ne_eq, jG, Nat.reduceLT, if_true, ite_true, Int.reduceLE, Int.reduceLT, Int.reduceEq, Int.reduceNeg, Int.reduceAdd, Nat.reduceSub, if_false, ite_false, fs_45.1, hl, kind_pure, kind_load, kind_fresh, kind_other, jg, ji, undef]; first | exact rfl | exact ⟨rfl, rfl, rfl, rfl⟩); try (with_reducible refine calmK_in ?_; decide +kernel)))
  refine s_do _ (by
    simp (maxDischargeDepth := 6) only [sy3.1, zY, qG, qP, qQ, qR, qS, qT, rowAt, ↓jg, ↓ji, Nat.reduceAdd, Nat.reduceEqDiff, ne_eq, jG, Nat.reduceLT, if_true, ite_true, Int.reduceLE, Int.reduceLT, Int.reduceEq, Int.reduceNeg, Int.reduceAdd, Nat.reduceSub, if_false, ite_false, fs_45.1]
    exact hcells _ _ _ (by omega) fun x hx => by (repeat (first | rw [qE] | rw [qF _ _ _ _ (by omega)]))) ?_
  rintro v1 H1 ⟨ca, cc, o1, nx1, heq, hn1, hv1, hc1, hca1, hfr1⟩
  cases heq
  have h4 : o1.get nx = some (.row [a0, a1, .int .i64 cl, a3, a4, a5, a6, a7, a8, a9, a10, a11] 29 0 true) := by rw [hfr1 _ (by omega)]; (repeat (first | rw [qE] | rw [qF _ _ _ _ (by omega)]))
  have h6 : o1.get (nx + 1) = some (.row [.int .u8 0, .int .i64 0] 41 0 true) := by rw [hfr1 _ (by omega)]; (repeat (first | rw [qE] | rw [qF _ _ _ _ (by omega)]))
  have hq : ∀ e : l.length ≤ k ∨ ¬ l.length ≤ k, True := fun _ => trivial
  by_cases h1 : cl < 1
  · rw [if_pos (.inl h1)]
    repeat (first | with_reducible (first | refine n_on ?_ | refine n_seq ?_ | refine s_else ?_ | refine n_t ?_ | refine n_gt ?_ | refine d_t ?_ | refine n_nil ?_ | refine d_nil ?_ | refine n_block ?_ | refine n_skip ?_ | refine n_bon ?_ | refine n_bback ?_ | refine n_back ?_ | refine n_out ?_ | refine n_bout rfl ?_ | refine n_bfar rfl ?_ | refine n_ret ?_ | refine n_exit ?_ | refine n_label ?_ | refine n_scope ?_ | refine n_son ?_ | refine n_sback ?_) | (with_reducible (first | apply n_region | apply d_region); (simp only [JV, JU, JW, Nat.reduceAdd, Nat.zero_add]; exact rfl)) | (with_reducible (first | apply s_op | apply n_guard | apply n_cond | apply d_guard | apply d_op | apply n_fin | apply n_finb); (simp (maxDischargeDepth := 6) only [sy3.1, zY, qG, qP, qQ, qR, qS, qT, rowAt, ↓jg, ↓ji, Nat.reduceAdd, Nat.reduceEqDiff, ne_eq, jG, Nat.reduceLT, if_true, ite_true, Int.reduceLE, Int.reduceLT, Int.reduceEq, Int.reduceNeg, Int.reduceAdd, Nat.reduceSub, if_false, ite_false, fs_45.1, vv, h4, h6, decide_eq_true h1, kind_pure, kind_load, kind_fresh, kind_other, jg, ji, undef]; first | exact rfl | exact ⟨rfl, rfl, rfl, rfl⟩); try (with_reducible refine calmK_in ?_; decide +kernel)))
    try exact Ja (by simp only [all_relogL, js, ju, List.all_nil, jt, Bool.and_self]) (by rfl)
  have d1 := decide_eq_false h1
  by_cases h2 : k < 0
  · rw [if_pos (.inr (.inl h2))]
    repeat (first | with_reducible (first | refine n_on ?_ | refine n_seq ?_ | refine s_else ?_ | refine n_t ?_ | refine n_gt ?_ | refine d_t ?_ | refine n_nil ?_ | refine d_nil ?_ | refine n_block ?_ | refine n_skip ?_ | refine n_bon ?_ | refine n_bback ?_ | refine n_back ?_ | refine n_out ?_ | refine n_bout rfl ?_ | refine n_bfar rfl ?_ | refine n_ret ?_ | refine n_exit ?_ | refine n_label ?_ | refine n_scope ?_ | refine n_son ?_ | refine n_sback ?_) | (with_reducible (first | apply n_region | apply d_region); (simp only [JV, JU, JW, Nat.reduceAdd, Nat.zero_add]; exact rfl)) | (with_reducible (first | apply s_op | apply n_guard | apply n_cond | apply d_guard | apply d_op | apply n_fin | apply n_finb); (simp (maxDischargeDepth := 6) only [sy3.1, zY, qG, qP, qQ, qR, qS, qT, rowAt, ↓jg, ↓ji, Nat.reduceAdd, Nat.reduceEqDiff, ne_eq, jG, Nat.reduceLT, if_true, ite_true, Int.reduceLE, Int.reduceLT, Int.reduceEq, Int.reduceNeg, Int.reduceAdd, Nat.reduceSub, if_false, ite_false, fs_45.1, vv, h4, h6, d1, decide_eq_true h2, kind_pure, kind_load, kind_fresh, kind_other, jg, ji, undef]; first | exact rfl | exact ⟨rfl, rfl, rfl, rfl⟩); try (with_reducible refine calmK_in ?_; decide +kernel)))
    try exact Ja (by simp only [all_relogL, js, ju, List.all_nil, jt, Bool.and_self]) (by rfl)
  have d2 := decide_eq_false h2
  by_cases h3 : (l.length : Int) ≤ k
  · rw [if_pos (.inr (.inr (.inl h3)))]
    have d3 : decide (Int.ofNat l.length ≤ k) = true := decide_eq_true h3
    repeat (first | with_reducible (first | refine n_on ?_ | refine n_seq ?_ | refine s_else ?_ | refine n_t ?_ | refine n_gt ?_ | refine d_t ?_ | refine n_nil ?_ | refine d_nil ?_ | refine n_block ?_ | refine n_skip ?_ | refine n_bon ?_ | refine n_bback ?_ | refine n_back ?_ | refine n_out ?_ | refine n_bout rfl ?_ | refine n_bfar rfl ?_ | refine n_ret ?_ | refine n_exit ?_ | refine n_label ?_ | refine n_scope ?_ | refine n_son ?_ | refine n_sback ?_) | (with_reducible (first | apply n_region | apply d_region); (simp only [JV, JU, JW, Nat.reduceAdd, Nat.zero_add]; exact rfl)) | (with_reducible (first | apply s_op | apply n_guard | apply n_cond | apply d_guard | apply d_op | apply n_fin | apply n_finb); (simp (maxDischargeDepth := 6) only [sy3.1, zY, qG, qP, qQ, qR, qS, qT, rowAt, ↓jg, ↓ji, Nat.reduceAdd, Nat.reduceEqDiff, ne_eq, jG, Nat.reduceLT, if_true, ite_true, Int.reduceLE, Int.reduceLT, Int.reduceEq, Int.reduceNeg, Int.reduceAdd, Nat.reduceSub, if_false, ite_false, fs_45.1, vv, h4, h6, d1, d2, d3, kind_pure, kind_load, kind_fresh, kind_other, jg, ji, undef]; first | exact rfl | exact ⟨rfl, rfl, rfl, rfl⟩); try (with_reducible refine calmK_in ?_; decide +kernel)))
    try exact Ja (by simp only [all_relogL, js, ju, List.all_nil, jt, Bool.and_self]) (by rfl)
  have d3 : decide (Int.ofNat l.length ≤ k) = false := decide_eq_false h3
  obtain ⟨q, rfl⟩ : ∃ q : Nat, k = Int.ofNat q := ⟨k.toNat, by simp only [Int.ofNat_eq_natCast]; omega⟩
  have hql : q < l.length := by simp only [Int.ofNat_eq_natCast] at h3; omega
  have hkq : (Int.ofNat q).toNat = q := rfl
  rw [hkq]
  rcases hv1 with ⟨_, e⟩ | ⟨j, rest, rfl, hj, hrow⟩
  · rw [e] at hql; simp at hql
  have hc := vv_cut hql rest
  have hg : l[q] = l.getD q (0, 0) := by simp [List.getD, hql]
  rw [hg] at hc
  have b1 : Nat.blt q l.length = true := by rw [Nat.blt_eq]; exact hql
  have d3' : decide (l.length ≤ q) = false := decide_eq_false (by omega)
  have d2' : decide (Int.ofNat q < 0) = false := d2
  have hHas := fun (q2 : Nat) (L1 : List Nat) => has_ok (n := n + 1) (o := o1) (nx := nx1 + q2) (lg := L1) hO (hh.more (by omega) fun x hx => (hfr1 x (by omega)).trans (by (repeat (first | rw [qE] | rw [qF _ _ _ _ (by omega)])))) (l.getD q (0, 0))
  cases hfo : (findO hs (l.getD q (0, 0))).isSome with
  | false =>
    rw [hfo] at hHas
    rw [if_pos (.inr (.inr (.inr rfl)))]
    repeat (first | with_reducible (first | refine n_on ?_ | refine n_seq ?_ | refine s_else ?_ | refine n_t ?_ | refine n_gt ?_ | refine d_t ?_ | refine n_nil ?_ | refine d_nil ?_ | refine n_block ?_ | refine n_skip ?_ | refine n_bon ?_ | refine n_bback ?_ | refine n_back ?_ | refine n_out ?_ | refine n_bout rfl ?_ | refine n_bfar rfl ?_ | refine n_ret ?_ | refine n_exit ?_ | refine n_label ?_ | refine n_scope ?_ | refine n_son ?_ | refine n_sback ?_) | (with_reducible (first | apply n_region | apply d_region); (simp only [JV, JU, JW, Nat.reduceAdd, Nat.zero_add]; exact rfl)) | (with_reducible (first | apply s_op | apply n_guard | apply n_cond | apply d_guard | apply d_op | apply n_fin | apply n_finb); (simp (maxDischargeDepth := 6) only [sy3.1, zY, qG, qP, qQ, qR, qS, qT, rowAt, ↓jg, ↓ji, Nat.reduceAdd, Nat.reduceEqDiff, ne_eq, jG, Nat.reduceLT, if_true, ite_true, Int.reduceLE, Int.reduceLT, Int.reduceEq, Int.reduceNeg, Int.reduceAdd, Nat.reduceSub, if_false, ite_false, fs_45.1, slA, vv, h4, h6, d1, d2', d3', indexAt, Option.isNone_none, b1, hrow, hc, hHas, kind_pure, kind_load, kind_fresh, kind_other, jg, ji, undef]; first | exact rfl | exact ⟨rfl, rfl, rfl, rfl⟩); try (with_reducible refine calmK_in ?_; decide +kernel)))
    try exact Ja (by simp only [all_relogL, js, ju, List.all_nil, jt, Bool.and_self]) (by rfl)
  | true =>
    rw [hfo] at hHas
    rw [if_neg (fun h => h.elim h1 fun h => h.elim h2 fun h => h.elim h3 fun h => by cases h)]
    repeat (first | with_reducible (first | refine n_on ?_ | refine n_seq ?_ | refine s_else ?_ | refine n_t ?_ | refine n_gt ?_ | refine d_t ?_ | refine n_nil ?_ | refine d_nil ?_ | refine n_block ?_ | refine n_skip ?_ | refine n_bon ?_ | refine n_bback ?_ | refine n_back ?_ | refine n_out ?_ | refine n_bout rfl ?_ | refine n_bfar rfl ?_ | refine n_ret ?_ | refine n_exit ?_ | refine n_label ?_ | refine n_scope ?_ | refine n_son ?_ | refine n_sback ?_) | (with_reducible (first | apply n_region | apply d_region); (simp only [JV, JU, JW, Nat.reduceAdd, Nat.zero_add]; exact rfl)) | (with_reducible (first | apply s_op | apply n_guard | apply n_cond | apply d_guard | apply d_op | apply n_fin | apply n_finb); (simp (maxDischargeDepth := 6) only [sy3.1, zY, qG, qP, qQ, qR, qS, qT, rowAt, ↓jg, ↓ji, Nat.reduceAdd, Nat.reduceEqDiff, ne_eq, jG, Nat.reduceLT, if_true, ite_true, Int.reduceLE, Int.reduceLT, Int.reduceEq, Int.reduceNeg, Int.reduceAdd, Nat.reduceSub, if_false, ite_false, fs_45.1, slA, vv, h4, h6, d1, d2', d3', indexAt, Option.isNone_none, b1, hrow, hc, hHas, kind_pure, kind_load, kind_fresh, kind_other, jg, ji, undef]; first | exact rfl | exact ⟨rfl, rfl, rfl, rfl⟩); try (with_reducible refine calmK_in ?_; decide +kernel)))
    try exact Ja (by simp only [all_relogL, js, ju, List.all_nil, jt, Bool.and_self]) (by rfl)
set_option maxHeartbeats 8000000 in
theorem fup_ok (hO : Clear O) (hh : HeapIn o nx w B hs) (k : Int) (hl : (cellsO hs (6, cl)).length ≤ 1000000) :
    oCall Try.prog [] O (n + 6) 23 [.pointer (some ⟨B.i, 0, none⟩), .agg #[a0, a1, .int .i64 cl, a3, a4, a5, a6, a7, a8, a9, a10, a11], .int .i64 k] ⟨o, nx, lg⟩ = some (vv (loadO hs (cellF hs cl k).1), ⟨o, nx, lg⟩) := by
  refine of_got ?_
  have hcell := fun (X Y : AObj) (q : Nat) (L1 : List Nat) => fcell_ok (n := n) (cl := cl) (a0 := a0) (a1 := a1) (a3 := a3) (a4 := a4) (a5 := a5) (a6 := a6) (a7 := a7) (a8 := a8) (a9 := a9) (a10 := a10) (a11 := a11) (o := (o.put nx (some X)).put (nx + 1) (some Y)) (nx := nx + (q + 2)) (lg := L1) hO (hh.more (by omega) fun x hx => by (repeat (first | rw [qE] | rw [qF _ _ _ _ (by omega)]))) k hl
  have hload := fun (O1 : Tr AObj) (N1 : Nat) (L1 : List Nat) (hN : nx ≤ N1) (hold : ∀ x, x < nx → O1.get x = o.get x) => load_ok (n := n + 1) (o := O1) (nx := N1) (lg := L1) hO (hh.more hN hold) (cellF hs cl k).1
  rw [y_fn (rs := [.cell 6 41]) (hO _ (by decide)) Try.func23 rfl (by kernel_rfl) rfl rfl]
  generalize cellF hs cl k = cf at hcell hload ⊢
  repeat (first | with_reducible (first | refine n_on ?_ | refine n_seq ?_ | refine s_else ?_ | refine n_t ?_ | refine n_gt ?_ | refine d_t ?_ | refine n_nil ?_ | refine d_nil ?_ | refine n_block ?_ | refine n_skip ?_ | refine n_bon ?_ | refine n_bback ?_ | refine n_back ?_ | refine n_out ?_ | refine n_bout rfl ?_ | refine n_bfar rfl ?_ | refine n_ret ?_ | refine n_exit ?_ | refine n_label ?_ | refine n_scope ?_ | refine n_son ?_ | refine n_sback ?_) | (with_reducible (first | apply n_region | apply d_region); (simp only [JV, JU, JW, Nat.reduceAdd, Nat.zero_add]; exact rfl)) | (with_reducible (first | apply s_op | apply n_guard | apply n_cond | apply d_guard | apply d_op | apply n_fin | apply n_finb); (simp (maxDischargeDepth := 6) only [sy3.1, zY, qG, qP, qQ, qR, qS, qT, rowAt, ↓jg, ↓ji, Nat.reduceAdd, Nat.reduceEqDiff, ne_eq, jG, Nat.reduceLT, if_true, ite_true, Int.reduceLE, Int.reduceLT, Int.reduceEq, Int.reduceNeg, Int.reduceAdd, Nat.reduceSub, if_false, ite_false, fs_23.1, vv, hcell, cut_twelve, kind_pure, kind_load, kind_fresh, kind_other, jg, ji, undef]; first | exact rfl | exact ⟨rfl, rfl, rfl, rfl⟩); try (with_reducible refine calmK_in ?_; decide +kernel)))
  refine s_do _ (by
    simp (maxDischargeDepth := 6) only [sy3.1, zY, qG, qP, qQ, qR, qS, qT, rowAt, ↓jg, ↓ji, Nat.reduceAdd, Nat.reduceEqDiff, ne_eq, jG, Nat.reduceLT, if_true, ite_true, Int.reduceLE, Int.reduceLT, Int.reduceEq, Int.reduceNeg, Int.reduceAdd, Nat.reduceSub, if_false, ite_false, fs_23.1]
    exact got_eq (hload _ _ _ (by omega) fun x hx => by (repeat (first | rw [qE] | rw [qF _ _ _ _ (by omega)])))) ?_
  rintro _ _ heq
  cases heq
  repeat (first | with_reducible (first | refine n_on ?_ | refine n_seq ?_ | refine s_else ?_ | refine n_t ?_ | refine n_gt ?_ | refine d_t ?_ | refine n_nil ?_ | refine d_nil ?_ | refine n_block ?_ | refine n_skip ?_ | refine n_bon ?_ | refine n_bback ?_ | refine n_back ?_ | refine n_out ?_ | refine n_bout rfl ?_ | refine n_bfar rfl ?_ | refine n_ret ?_ | refine n_exit ?_ | refine n_label ?_ | refine n_scope ?_ | refine n_son ?_ | refine n_sback ?_) | (with_reducible (first | apply n_region | apply d_region); (simp only [JV, JU, JW, Nat.reduceAdd, Nat.zero_add]; exact rfl)) | (with_reducible (first | apply s_op | apply n_guard | apply n_cond | apply d_guard | apply d_op | apply n_fin | apply n_finb); (simp (maxDischargeDepth := 6) only [sy3.1, zY, qG, qP, qQ, qR, qS, qT, rowAt, ↓jg, ↓ji, Nat.reduceAdd, Nat.reduceEqDiff, ne_eq, jG, Nat.reduceLT, if_true, ite_true, Int.reduceLE, Int.reduceLT, Int.reduceEq, Int.reduceNeg, Int.reduceAdd, Nat.reduceSub, if_false, ite_false, fs_23.1, vv, kind_pure, kind_load, kind_fresh, kind_other, jg, ji, undef]; first | exact rfl | exact ⟨rfl, rfl, rfl, rfl⟩); try (with_reducible refine calmK_in ?_; decide +kernel)))
  try exact Ja (by simp only [all_relogL, js, ju, List.all_nil, jt, Bool.and_self]) (by rfl)
end
end Go.Proofs.Ytckahbnkdiamjaa
