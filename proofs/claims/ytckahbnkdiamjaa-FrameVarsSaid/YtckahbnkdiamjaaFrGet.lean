/- Frame: Get, on the abstract machine, where all is right. -/
import Derived.Test.YtckahbnkdiamjaaFrIn
namespace Go.Proofs.Ytckahbnkdiamjaa
open Go.RowKit
set_option linter.unusedSimpArgs false
set_option linter.unusedVariables false
set_option maxRecDepth 100000

theorem got_eq {α : Type} {r : Option α} {a : α} (h : r = some a) : Got r fun x => x = a := ⟨a, h, rfl⟩
def getF (hs : HS) (b : Bool) (v : VV) : VV := if b = decide (v.1 = 9) then (if b = true then loadO hs v else v) else (0, 0)
section
variable {O : Helps} {n : Nat} {o : Tr AObj} {nx : Nat} {lg : List Nat} {w : Nat → Nat} {B : HB} {hs : HS} {kp kb ks : Nat} {bx : List Bool} {ups : Value} {cl : Int} {sa c : Nat}
set_option maxHeartbeats 8000000 in
theorem fget1_ok (hO : Clear O) (h : HeapIn o nx w B hs) {b1 b2 b3 e1 e2 e3 z1 z2 z3 : Nat} {b : Bool} {v : VV} (h1 : o.get b1 = some (.row [.bool b] e1 z1 true)) (h2 : o.get b2 = some (.row [.pointer (some ⟨B.i, 0, none⟩)] e2 z2 true)) (h3 : o.get b3 = some (.row [.int .u8 v.1, .int .i64 v.2] e3 z3 true)) (l1 : b1 < nx) (l2 : b2 < nx) (l3 : b3 < nx) :
    oCall Try.prog [] O (n + 5) 50 [.pointer (some ⟨b1, 0, none⟩), .pointer (some ⟨b2, 0, none⟩), .pointer (some ⟨b3, 0, none⟩)] ⟨o, nx, lg⟩ = some (vv (if b = true then loadO hs v else v), ⟨o, nx, lg⟩) := by
  refine of_got ?_
  have hl := fun (X : AObj) (q : Nat) (lg : List Nat) => load_ok (n := n) (lg := lg) hO (more1 h (some X) q) v
  rw [y_fn (rs := [.cell 3 41]) (hO _ (by decide)) Try.func50 rfl (by kernel_rfl) rfl rfl]
  cases b with
  | true =>
    repeat (first | with_reducible (first | refine n_on ?_ | refine n_seq ?_ | refine s_else ?_ | refine n_t ?_ | refine n_gt ?_ | refine d_t ?_ | refine n_nil ?_ | refine d_nil ?_ | refine n_block ?_ | refine n_skip ?_ | refine n_bon ?_ | refine n_bback ?_ | refine n_back ?_ | refine n_out ?_ | refine n_bout rfl ?_ | refine n_bfar rfl ?_ | refine n_ret ?_ | refine n_exit ?_ | refine n_label ?_ | refine n_scope ?_ | refine n_son ?_ | refine n_sback ?_) | (with_reducible (first | apply n_region | apply d_region); (simp only [JV, JU, JW, Nat.reduceAdd, Nat.zero_add]; exact rfl)) | (with_reducible (first | apply s_op | apply n_guard | apply n_cond | apply d_guard | apply d_op | apply n_fin | apply n_finb); (simp (maxDischargeDepth := 6) only [sy3.1, zY, qG, qP, qQ, qR, qS, qT, rowAt, ↓jg, ↓ji, Nat.reduceAdd, Nat.reduceEqDiff, ne_eq, jG, Nat.reduceLT, if_true, ite_true, Int.reduceLE, Int.reduceLT, Int.reduceEq, Int.reduceNeg, Int.reduceAdd, Nat.reduceSub, if_false, ite_false, fs_50.1, h1, h2, h3, l1, l2, l3, hl, vv, kind_pure, kind_load, kind_fresh, kind_other, jg, ji, undef]; first | exact rfl | exact ⟨rfl, rfl, rfl, rfl⟩); try (with_reducible refine calmK_in ?_; decide +kernel)))
    try exact Ja (by simp only [all_relogL, js, ju, List.all_nil, jt, Bool.and_self]) (by rfl)
  | false =>
    repeat (first | with_reducible (first | refine n_on ?_ | refine n_seq ?_ | refine s_else ?_ | refine n_t ?_ | refine n_gt ?_ | refine d_t ?_ | refine n_nil ?_ | refine d_nil ?_ | refine n_block ?_ | refine n_skip ?_ | refine n_bon ?_ | refine n_bback ?_ | refine n_back ?_ | refine n_out ?_ | refine n_bout rfl ?_ | refine n_bfar rfl ?_ | refine n_ret ?_ | refine n_exit ?_ | refine n_label ?_ | refine n_scope ?_ | refine n_son ?_ | refine n_sback ?_) | (with_reducible (first | apply n_region | apply d_region); (simp only [JV, JU, JW, Nat.reduceAdd, Nat.zero_add]; exact rfl)) | (with_reducible (first | apply s_op | apply n_guard | apply n_cond | apply d_guard | apply d_op | apply n_fin | apply n_finb); (simp (maxDischargeDepth := 6) only [sy3.1, zY, qG, qP, qQ, qR, qS, qT, rowAt, ↓jg, ↓ji, Nat.reduceAdd, Nat.reduceEqDiff, ne_eq, jG, Nat.reduceLT, if_true, ite_true, Int.reduceLE, Int.reduceLT, Int.reduceEq, Int.reduceNeg, Int.reduceAdd, Nat.reduceSub, if_false, ite_false, fs_50.1, h1, h2, h3, l1, l2, l3, hl, vv, kind_pure, kind_load, kind_fresh, kind_other, jg, ji, undef]; first | exact rfl | exact ⟨rfl, rfl, rfl, rfl⟩); try (with_reducible refine calmK_in ?_; decide +kernel)))
    try exact Ja (by simp only [all_relogL, js, ju, List.all_nil, jt, Bool.and_self]) (by rfl)
set_option maxHeartbeats 16000000 in
theorem fget_ok (hO : Clear O) (hh : HeapIn o nx w B hs) (h : ProgIn o nx kp kb ks bx ups) {kf : Nat} {sv : List VV} (hf : FrIn o nx kf cl sa c sv) {k : Nat} (hk : k < 5) :
    oCall Try.prog [] O (n + 6) 15 [pV kp, .pointer (some ⟨B.i, 0, none⟩), frV cl sa c, .int .i64 (.ofNat k)] ⟨o, nx, lg⟩ = some (vv (getF hs (bx.getD k false) (sv.getD k (0, 0))), ⟨o, nx, lg⟩) := by
  refine of_got ?_
  have hS := fun (X Y Z : AObj) (q : Nat) (lg : List Nat) => fslot_ok (n := n + 3) (o := (((o.put nx (some X)).put (nx + 1) (some Y)).put (nx + 2) (some (.row (frC cl sa c) 29 0 true))).put (nx + 3) (some Z)) (nx := nx + (q + 4)) (lg := lg) (kf := nx + 2) (cl := cl) (sa := sa) (c := c) (sv := sv) hO (h.more (by omega) fun x hx => by (repeat (first | rw [qE] | rw [qF _ _ _ _ (by omega)]))) ⟨by omega, by have := hf.lts; omega, by have := hf.lts; omega, ⟨0, by (repeat (first | rw [qE] | rw [qF _ _ _ _ (by omega)]))⟩, by
    obtain ⟨r, hr⟩ := hf.slots
    have := hf.lts
    exact ⟨r, by (repeat (first | rw [qE] | rw [qF _ _ _ _ (by omega)])); exact hr⟩, hf.len, hf.cl1⟩ hk
  generalize bx.getD k false = b at hS ⊢
  generalize sv.getD k (0, 0) = v at hS ⊢
  have hco := calleeV_func (P := Try.prog) 50 #[] #[.pointer (some ⟨nx + 12, 0, none⟩), .pointer (some ⟨nx + 1, 0, none⟩), .pointer (some ⟨nx + 11, 0, none⟩)] (by kernel_rfl)
  rw [y_fn (rs := [.cell 8 41]) (hO _ (by decide)) Try.func15 rfl (by kernel_rfl) rfl rfl]
  unfold getF
  cases hbd : (b == decide (v.1 = 9)) with
  | true =>
    have e : b = decide (v.1 = 9) := by simpa using hbd
    rw [if_pos e]
    repeat (first | with_reducible (first | refine n_on ?_ | refine n_seq ?_ | refine s_else ?_ | refine n_t ?_ | refine n_gt ?_ | refine d_t ?_ | refine n_nil ?_ | refine d_nil ?_ | refine n_block ?_ | refine n_skip ?_ | refine n_bon ?_ | refine n_bback ?_ | refine n_back ?_ | refine n_out ?_ | refine n_bout rfl ?_ | refine n_bfar rfl ?_ | refine n_ret ?_ | refine n_exit ?_ | refine n_label ?_ | refine n_scope ?_ | refine n_son ?_ | refine n_sback ?_) | (with_reducible (first | apply n_region | apply d_region); (simp only [JV, JU, JW, Nat.reduceAdd, Nat.zero_add]; exact rfl)) | (with_reducible (first | apply s_op | apply n_guard | apply n_cond | apply d_guard | apply d_op | apply n_fin | apply n_finb); (simp (maxDischargeDepth := 6) only [sy3.1, zY, qG, qP, qQ, qR, qS, qT, rowAt, ↓jg, ↓ji, Nat.reduceAdd, Nat.reduceEqDiff, ne_eq, jG, Nat.reduceLT, if_true, ite_true, Int.reduceLE, Int.reduceLT, Int.reduceEq, Int.reduceNeg, Int.reduceAdd, Nat.reduceSub, if_false, ite_false, fs_15.1, pV, frC, frV, vv, hS, hbd, List.map_toArray, kind_pure, kind_load, kind_fresh, kind_other, jg, ji, undef]; first | exact rfl | exact ⟨rfl, rfl, rfl, rfl⟩); try (with_reducible refine calmK_in ?_; decide +kernel)))
    refine s_do _ (by
      simp (maxDischargeDepth := 6) only [sy3.1, zY, qG, qP, qQ, qR, qS, qT, rowAt, ↓jg, ↓ji, Nat.reduceAdd, Nat.reduceEqDiff, ne_eq, jG, Nat.reduceLT, if_true, ite_true, Int.reduceLE, Int.reduceLT, Int.reduceEq, Int.reduceNeg, Int.reduceAdd, Nat.reduceSub, if_false, ite_false, fs_15.1, hco, List.map_toArray]
      exact got_eq (fget1_ok (B := B) (hs := hs) (w := w) (b := b) (v := v) hO (hh.more (by omega) fun x hx => by (repeat (first | rw [qE] | rw [qF _ _ _ _ (by omega)]))) (qE _ _ _) (by (repeat (first | rw [qE] | rw [qF _ _ _ _ (by omega)]))) (by (repeat (first | rw [qE] | rw [qF _ _ _ _ (by omega)]))) (by omega) (by omega) (by omega))) ?_
    rintro _ _ heq
    cases heq
    repeat (first | with_reducible (first | refine n_on ?_ | refine n_seq ?_ | refine s_else ?_ | refine n_t ?_ | refine n_gt ?_ | refine d_t ?_ | refine n_nil ?_ | refine d_nil ?_ | refine n_block ?_ | refine n_skip ?_ | refine n_bon ?_ | refine n_bback ?_ | refine n_back ?_ | refine n_out ?_ | refine n_bout rfl ?_ | refine n_bfar rfl ?_ | refine n_ret ?_ | refine n_exit ?_ | refine n_label ?_ | refine n_scope ?_ | refine n_son ?_ | refine n_sback ?_) | (with_reducible (first | apply n_region | apply d_region); (simp only [JV, JU, JW, Nat.reduceAdd, Nat.zero_add]; exact rfl)) | (with_reducible (first | apply s_op | apply n_guard | apply n_cond | apply d_guard | apply d_op | apply n_fin | apply n_finb); (simp (maxDischargeDepth := 6) only [sy3.1, zY, qG, qP, qQ, qR, qS, qT, rowAt, ↓jg, ↓ji, Nat.reduceAdd, Nat.reduceEqDiff, ne_eq, jG, Nat.reduceLT, if_true, ite_true, Int.reduceLE, Int.reduceLT, Int.reduceEq, Int.reduceNeg, Int.reduceAdd, Nat.reduceSub, if_false, ite_false, fs_15.1, vv, kind_pure, kind_load, kind_fresh, kind_other, jg, ji, undef]; first | exact rfl | exact ⟨rfl, rfl, rfl, rfl⟩); try (with_reducible refine calmK_in ?_; decide +kernel)))
    try exact Ja (by simp only [all_relogL, js, ju, List.all_nil, jt, Bool.and_self]) (by rfl)
  | false =>
    have e : ¬ b = decide (v.1 = 9) := by simpa using hbd
    rw [if_neg e]
    repeat (first | with_reducible (first | refine n_on ?_ | refine n_seq ?_ | refine s_else ?_ | refine n_t ?_ | refine n_gt ?_ | refine d_t ?_ | refine n_nil ?_ | refine d_nil ?_ | refine n_block ?_ | refine n_skip ?_ | refine n_bon ?_ | refine n_bback ?_ | refine n_back ?_ | refine n_out ?_ | refine n_bout rfl ?_ | refine n_bfar rfl ?_ | refine n_ret ?_ | refine n_exit ?_ | refine n_label ?_ | refine n_scope ?_ | refine n_son ?_ | refine n_sback ?_) | (with_reducible (first | apply n_region | apply d_region); (simp only [JV, JU, JW, Nat.reduceAdd, Nat.zero_add]; exact rfl)) | (with_reducible (first | apply s_op | apply n_guard | apply n_cond | apply d_guard | apply d_op | apply n_fin | apply n_finb); (simp (maxDischargeDepth := 6) only [sy3.1, zY, qG, qP, qQ, qR, qS, qT, rowAt, ↓jg, ↓ji, Nat.reduceAdd, Nat.reduceEqDiff, ne_eq, jG, Nat.reduceLT, if_true, ite_true, Int.reduceLE, Int.reduceLT, Int.reduceEq, Int.reduceNeg, Int.reduceAdd, Nat.reduceSub, if_false, ite_false, fs_15.1, pV, frC, frV, vv, hS, hbd, List.map_toArray, kind_pure, kind_load, kind_fresh, kind_other, jg, ji, undef]; first | exact rfl | exact ⟨rfl, rfl, rfl, rfl⟩); try (with_reducible refine calmK_in ?_; decide +kernel)))
    try exact Ja (by simp only [all_relogL, js, ju, List.all_nil, jt, Bool.and_self]) (by rfl)
end
end Go.Proofs.Ytckahbnkdiamjaa
