/- lib: what is told: done. -/
import Derived.Test.YtdfadipfhcikdaaGreatDoorGoLib
import Derived.Test.YtdfadipfhcikdaaGreatDoorHmVls
namespace Go.Proofs.YtdfadipfhcikdaaGreatDoor
open Go.RowKit
set_option linter.unusedSimpArgs false
set_option linter.unusedVariables false
set_option maxRecDepth 100000

/-- what a call tells: its kind, its values -/
def toldV (k : Int) (q m : Nat) : Value := .agg #[.int .u8 k, .slice (some ⟨q, 0, none⟩) m 0, .bool false, .string ⟨#[]⟩]
def DoneTo (o : Tr AObj) (nx : Nat) (lg : List Nat) (l : List VV) (r : Value × AHeap) : Prop :=
  ∃ q o' nx', r = (toldV 1 q l.length, ⟨o', nx', lg⟩) ∧ nx ≤ q ∧ q < nx' ∧ o'.get q = some (.row (vvCells l) 29 2 true) ∧ ∀ x, x < nx → o'.get x = o.get x
section
variable {O : Helps} {n : Nat} {o : Tr AObj} {nx : Nat} {lg : List Nat} {w : Nat → Nat} {B : HB} {hs : HS}
set_option maxHeartbeats 8000000 in
theorem clone1_ok (hO : Clear O) {l : List VV} {j m cc : Nat} {rest : List Value} (hm : l.length = m + 1) (hl : l.length ≤ 1000000) (hj : j < nx) (hrow : o.get j = some (.row (vvCells l ++ rest) 29 2 true)) :
    Got (oCall Tryz.prog [] O (n + 1) 78 [.slice (some ⟨j, 0, none⟩) (m + 1) cc] ⟨o, nx, lg⟩) fun r => ∃ q o' nx', r = (.slice (some ⟨q, 0, none⟩) (m + 1) 0, ⟨o', nx', lg⟩) ∧ nx ≤ q ∧ q < nx' ∧ o'.get q = some (.row (vvCells l) 29 2 true) ∧ ∀ x, x < nx → o'.get x = o.get x := by
  rw [y_fn (rs := [.tmp 2]) (hO _ (by decide)) Tryz.func78 rfl (by kernel_rfl) rfl rfl]
  repeat (first | with_reducible (first | refine n_on ?_ | refine n_seq ?_ | refine s_else ?_ | refine n_t ?_ | refine n_gt ?_ | refine d_t ?_ | refine n_nil ?_ | refine d_nil ?_ | refine n_block ?_ | refine n_skip ?_ | refine n_bon ?_ | refine n_bback ?_ | refine n_back ?_ | refine n_out ?_ | refine n_bout rfl ?_ | refine n_bfar rfl ?_ | refine n_ret ?_ | refine n_exit ?_ | refine n_label ?_ | refine n_scope ?_ | refine n_son ?_ | refine n_sback ?_) | (with_reducible (first | apply n_region | apply d_region); (simp only [JV, JU, JW, Nat.reduceAdd, Nat.zero_add]; exact rfl)) | (with_reducible (first | apply s_op | apply n_guard | apply n_cond | apply d_guard | apply d_op | apply n_fin | apply n_finb); (simp (maxDischargeDepth := 6) only [sy3.1, zY, qG, qP, qQ, qR, qS, qT, rowAt, ↓jg, ↓ji, Nat.reduceAdd, Nat.reduceEqDiff, ne_eq, jG, Nat.reduceLT, if_true, ite_true, Int.reduceLE, Int.reduceLT, Int.reduceEq, Int.reduceNeg, Int.reduceAdd, Nat.reduceSub, if_false, ite_false, fs_78.1, hj, hrow, st_buildSliceV, build_vv0, vapp_row (cc := cc) (rest := rest) (j := j) hm hl, kind_pure, kind_load, kind_fresh, kind_other, jg, ji, undef]; first | exact rfl | exact ⟨rfl, rfl, rfl, rfl⟩); try (with_reducible refine calmK_in ?_; decide +kernel)))
  exact ⟨nx + 5, _, _, leave_new (by rfl) (show Nat.blt (nx + 5) nx = false from blt_new (by omega)), by omega, by omega, qE _ _ _, fun x hx => by (repeat (first | rw [qE] | rw [qF _ _ _ _ (by omega)]))⟩
set_option maxHeartbeats 8000000 in
theorem done_ok (hO : Clear O) {l : List VV} {j m cc : Nat} {rest : List Value} (hm : l.length = m + 1) (hl : l.length ≤ 1000000) (hj : j < nx) (hrow : o.get j = some (.row (vvCells l ++ rest) 29 2 true)) :
    Got (oCall Tryz.prog [] O (n + 2) 38 [.slice (some ⟨j, 0, none⟩) (m + 1) cc] ⟨o, nx, lg⟩) (DoneTo o nx lg l) := by
  rw [y_fn (rs := [.cell 2 37]) (hO _ (by decide)) Tryz.func38 rfl (by kernel_rfl) rfl rfl]
  repeat (first | with_reducible (first | refine n_on ?_ | refine n_seq ?_ | refine s_else ?_ | refine n_t ?_ | refine n_gt ?_ | refine d_t ?_ | refine n_nil ?_ | refine d_nil ?_ | refine n_block ?_ | refine n_skip ?_ | refine n_bon ?_ | refine n_bback ?_ | refine n_back ?_ | refine n_out ?_ | refine n_bout rfl ?_ | refine n_bfar rfl ?_ | refine n_ret ?_ | refine n_exit ?_ | refine n_label ?_ | refine n_scope ?_ | refine n_son ?_ | refine n_sback ?_) | (with_reducible (first | apply n_region | apply d_region); (simp only [JV, JU, JW, Nat.reduceAdd, Nat.zero_add]; exact rfl)) | (with_reducible (first | apply s_op | apply n_guard | apply n_cond | apply d_guard | apply d_op | apply n_fin | apply n_finb); (simp (maxDischargeDepth := 6) only [sy3.1, zY, qG, qP, qQ, qR, qS, qT, rowAt, ↓jg, ↓ji, Nat.reduceAdd, Nat.reduceEqDiff, ne_eq, jG, Nat.reduceLT, if_true, ite_true, Int.reduceLE, Int.reduceLT, Int.reduceEq, Int.reduceNeg, Int.reduceAdd, Nat.reduceSub, if_false, ite_false, fs_38.1, hj, kind_pure, kind_load, kind_fresh, kind_other, jg, ji, undef]; first | exact rfl | exact ⟨rfl, rfl, rfl, rfl⟩); try (with_reducible refine calmK_in ?_; decide +kernel)))
  refine s_do _ (by
    simp (maxDischargeDepth := 6) only [sy3.1, zY, qG, qP, qQ, qR, qS, qT, rowAt, ↓jg, ↓ji, Nat.reduceAdd, Nat.reduceEqDiff, ne_eq, jG, Nat.reduceLT, if_true, ite_true, Int.reduceLE, Int.reduceLT, Int.reduceEq, Int.reduceNeg, Int.reduceAdd, Nat.reduceSub, if_false, ite_false, fs_38.1]
    exact clone1_ok (n := n) hO hm hl (show j < nx + 5 by omega) (by (repeat (first | rw [qE] | rw [qF _ _ _ _ (by omega)])); exact hrow)) ?_
  rintro v1 H1 ⟨q, o1, nx1, heq, hq, hq2, hrq, hfr⟩
  cases heq
  have h2 : o1.get nx = some (.row [.int .u8 0, .slice none 0 0, .bool false, .string ⟨#[]⟩] 37 0 true) := by rw [hfr nx (by omega)]; exact qE _ _ _
  have hlt : nx < nx1 := by omega
  repeat (first | with_reducible (first | refine n_on ?_ | refine n_seq ?_ | refine s_else ?_ | refine n_t ?_ | refine n_gt ?_ | refine d_t ?_ | refine n_nil ?_ | refine d_nil ?_ | refine n_block ?_ | refine n_skip ?_ | refine n_bon ?_ | refine n_bback ?_ | refine n_back ?_ | refine n_out ?_ | refine n_bout rfl ?_ | refine n_bfar rfl ?_ | refine n_ret ?_ | refine n_exit ?_ | refine n_label ?_ | refine n_scope ?_ | refine n_son ?_ | refine n_sback ?_) | (with_reducible (first | apply n_region | apply d_region); (simp only [JV, JU, JW, Nat.reduceAdd, Nat.zero_add]; exact rfl)) | (with_reducible (first | apply s_op | apply n_guard | apply n_cond | apply d_guard | apply d_op | apply n_fin | apply n_finb); (simp (maxDischargeDepth := 6) only [sy3.1, zY, qG, qP, qQ, qR, qS, qT, rowAt, ↓jg, ↓ji, Nat.reduceAdd, Nat.reduceEqDiff, ne_eq, jG, Nat.reduceLT, if_true, ite_true, Int.reduceLE, Int.reduceLT, Int.reduceEq, Int.reduceNeg, Int.reduceAdd, Nat.reduceSub, if_false, ite_false, fs_38.1, h2, hlt, kind_pure, kind_load, kind_fresh, kind_other, jg, ji, undef]; first | exact rfl | exact ⟨rfl, rfl, rfl, rfl⟩); try (with_reducible refine calmK_in ?_; decide +kernel)))
  rw [← hm]
  refine ⟨q, _, _, leave_new ?_ ?_, by omega, by omega, ?_, fun x hx => ?_⟩
  · simp only [all_relogL, js, ju, List.all_nil, jt, Bool.and_self]
  · show (Nat.blt q nx && _) = false
    rw [blt_new (by omega)]; rfl
  · (repeat (first | rw [qE] | rw [qF _ _ _ _ (by omega)])); exact hrq
  · (repeat (first | rw [qE] | rw [qF _ _ _ _ (by omega)])); rw [hfr x (by omega)]; (repeat (first | rw [qE] | rw [qF _ _ _ _ (by omega)]))
end
end Go.Proofs.YtdfadipfhcikdaaGreatDoor
