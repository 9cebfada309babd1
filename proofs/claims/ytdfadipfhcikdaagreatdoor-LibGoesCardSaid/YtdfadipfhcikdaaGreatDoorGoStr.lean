/- lib: comparisons of Call's strings. Written by a program (gogen.py). -/
import Derived.Test.YtdfadipfhcikdaaGreatDoorGoMap
namespace Go.Proofs.YtdfadipfhcikdaaGreatDoor
open Go.RowKit
set_option linter.unusedSimpArgs false
set_option linter.unusedVariables false
set_option maxRecDepth 100000

def str_next : Value := .string ⟨#[110, 101, 120, 116]⟩
theorem se_next_pcall : decide (([110, 101, 120, 116] : List UInt8) = [112, 99, 97, 108, 108]) = false := by decide
theorem se_next_ipairs : decide (([110, 101, 120, 116] : List UInt8) = [105, 112, 97, 105, 114, 115]) = false := by decide
theorem se_next_rawlen : decide (([110, 101, 120, 116] : List UInt8) = [114, 97, 119, 108, 101, 110]) = false := by decide
theorem se_next_rawget : decide (([110, 101, 120, 116] : List UInt8) = [114, 97, 119, 103, 101, 116]) = false := by decide
theorem se_next_rawset : decide (([110, 101, 120, 116] : List UInt8) = [114, 97, 119, 115, 101, 116]) = false := by decide
theorem se_next_setmetatable : decide (([110, 101, 120, 116] : List UInt8) = [115, 101, 116, 109, 101, 116, 97, 116, 97, 98, 108, 101]) = false := by decide
theorem se_next_next : decide (([110, 101, 120, 116] : List UInt8) = [110, 101, 120, 116]) = true := by decide
theorem se_next_pairs : decide (([110, 101, 120, 116] : List UInt8) = [112, 97, 105, 114, 115]) = false := by decide
theorem se_next_ipairs_step : decide (([110, 101, 120, 116] : List UInt8) = [105, 112, 97, 105, 114, 115, 46, 115, 116, 101, 112]) = false := by decide
theorem sl_next : ∀ c H, lenV Tryz.prog 9 3 c (.string ⟨#[110, 101, 120, 116]⟩) H = some (.int .i64 4) := fun c H => by cases c <;> kernel_rfl
def str_pairs : Value := .string ⟨#[112, 97, 105, 114, 115]⟩
theorem se_pairs_pcall : decide (([112, 97, 105, 114, 115] : List UInt8) = [112, 99, 97, 108, 108]) = false := by decide
theorem se_pairs_ipairs : decide (([112, 97, 105, 114, 115] : List UInt8) = [105, 112, 97, 105, 114, 115]) = false := by decide
theorem se_pairs_rawlen : decide (([112, 97, 105, 114, 115] : List UInt8) = [114, 97, 119, 108, 101, 110]) = false := by decide
theorem se_pairs_rawget : decide (([112, 97, 105, 114, 115] : List UInt8) = [114, 97, 119, 103, 101, 116]) = false := by decide
theorem se_pairs_rawset : decide (([112, 97, 105, 114, 115] : List UInt8) = [114, 97, 119, 115, 101, 116]) = false := by decide
theorem se_pairs_setmetatable : decide (([112, 97, 105, 114, 115] : List UInt8) = [115, 101, 116, 109, 101, 116, 97, 116, 97, 98, 108, 101]) = false := by decide
theorem se_pairs_next : decide (([112, 97, 105, 114, 115] : List UInt8) = [110, 101, 120, 116]) = false := by decide
theorem se_pairs_pairs : decide (([112, 97, 105, 114, 115] : List UInt8) = [112, 97, 105, 114, 115]) = true := by decide
theorem se_pairs_ipairs_step : decide (([112, 97, 105, 114, 115] : List UInt8) = [105, 112, 97, 105, 114, 115, 46, 115, 116, 101, 112]) = false := by decide
theorem sl_pairs : ∀ c H, lenV Tryz.prog 9 3 c (.string ⟨#[112, 97, 105, 114, 115]⟩) H = some (.int .i64 5) := fun c H => by cases c <;> kernel_rfl
def str_ipairs : Value := .string ⟨#[105, 112, 97, 105, 114, 115]⟩
theorem se_ipairs_pcall : decide (([105, 112, 97, 105, 114, 115] : List UInt8) = [112, 99, 97, 108, 108]) = false := by decide
theorem se_ipairs_ipairs : decide (([105, 112, 97, 105, 114, 115] : List UInt8) = [105, 112, 97, 105, 114, 115]) = true := by decide
theorem se_ipairs_rawlen : decide (([105, 112, 97, 105, 114, 115] : List UInt8) = [114, 97, 119, 108, 101, 110]) = false := by decide
theorem se_ipairs_rawget : decide (([105, 112, 97, 105, 114, 115] : List UInt8) = [114, 97, 119, 103, 101, 116]) = false := by decide
theorem se_ipairs_rawset : decide (([105, 112, 97, 105, 114, 115] : List UInt8) = [114, 97, 119, 115, 101, 116]) = false := by decide
theorem se_ipairs_setmetatable : decide (([105, 112, 97, 105, 114, 115] : List UInt8) = [115, 101, 116, 109, 101, 116, 97, 116, 97, 98, 108, 101]) = false := by decide
theorem se_ipairs_next : decide (([105, 112, 97, 105, 114, 115] : List UInt8) = [110, 101, 120, 116]) = false := by decide
theorem se_ipairs_pairs : decide (([105, 112, 97, 105, 114, 115] : List UInt8) = [112, 97, 105, 114, 115]) = false := by decide
theorem se_ipairs_ipairs_step : decide (([105, 112, 97, 105, 114, 115] : List UInt8) = [105, 112, 97, 105, 114, 115, 46, 115, 116, 101, 112]) = false := by decide
theorem sl_ipairs : ∀ c H, lenV Tryz.prog 9 3 c (.string ⟨#[105, 112, 97, 105, 114, 115]⟩) H = some (.int .i64 6) := fun c H => by cases c <;> kernel_rfl
def str_ipairs_step : Value := .string ⟨#[105, 112, 97, 105, 114, 115, 46, 115, 116, 101, 112]⟩
theorem se_ipairs_step_pcall : decide (([105, 112, 97, 105, 114, 115, 46, 115, 116, 101, 112] : List UInt8) = [112, 99, 97, 108, 108]) = false := by decide
theorem se_ipairs_step_ipairs : decide (([105, 112, 97, 105, 114, 115, 46, 115, 116, 101, 112] : List UInt8) = [105, 112, 97, 105, 114, 115]) = false := by decide
theorem se_ipairs_step_rawlen : decide (([105, 112, 97, 105, 114, 115, 46, 115, 116, 101, 112] : List UInt8) = [114, 97, 119, 108, 101, 110]) = false := by decide
theorem se_ipairs_step_rawget : decide (([105, 112, 97, 105, 114, 115, 46, 115, 116, 101, 112] : List UInt8) = [114, 97, 119, 103, 101, 116]) = false := by decide
theorem se_ipairs_step_rawset : decide (([105, 112, 97, 105, 114, 115, 46, 115, 116, 101, 112] : List UInt8) = [114, 97, 119, 115, 101, 116]) = false := by decide
theorem se_ipairs_step_setmetatable : decide (([105, 112, 97, 105, 114, 115, 46, 115, 116, 101, 112] : List UInt8) = [115, 101, 116, 109, 101, 116, 97, 116, 97, 98, 108, 101]) = false := by decide
theorem se_ipairs_step_next : decide (([105, 112, 97, 105, 114, 115, 46, 115, 116, 101, 112] : List UInt8) = [110, 101, 120, 116]) = false := by decide
theorem se_ipairs_step_pairs : decide (([105, 112, 97, 105, 114, 115, 46, 115, 116, 101, 112] : List UInt8) = [112, 97, 105, 114, 115]) = false := by decide
theorem se_ipairs_step_ipairs_step : decide (([105, 112, 97, 105, 114, 115, 46, 115, 116, 101, 112] : List UInt8) = [105, 112, 97, 105, 114, 115, 46, 115, 116, 101, 112]) = true := by decide
theorem sl_ipairs_step : ∀ c H, lenV Tryz.prog 9 3 c (.string ⟨#[105, 112, 97, 105, 114, 115, 46, 115, 116, 101, 112]⟩) H = some (.int .i64 11) := fun c H => by cases c <;> kernel_rfl
theorem sl_cor : ∀ c H, lenV Tryz.prog 9 3 c (.string ⟨#[99, 111, 114, 111, 117, 116, 105, 110, 101, 46]⟩) H = some (.int .i64 10) := fun c H => by cases c <;> kernel_rfl
theorem ss_step : slS Tryz.prog 9 (.string ⟨#[105, 112, 97, 105, 114, 115, 46, 115, 116, 101, 112]⟩) none (some (.int .i64 10)) = some (.string ⟨#[105, 112, 97, 105, 114, 115, 46, 115, 116, 101]⟩) := by kernel_rfl
theorem se_ste : decide (([105, 112, 97, 105, 114, 115, 46, 115, 116, 101] : List UInt8) = [99, 111, 114, 111, 117, 116, 105, 110, 101, 46]) = false := by decide
section
variable {O : Helps} {n : Nat} {o : Tr AObj} {nx : Nat} {lg : List Nat}
theorem hq_next (hO : Clear O) : oCall Tryz.prog [] O (n + 1) 79 [.string ⟨#[110, 101, 120, 116]⟩, .string ⟨#[99, 111, 114, 111, 117, 116, 105, 110, 101, 46]⟩] ⟨o, nx, lg⟩ = some (.bool false, ⟨o, nx, lg⟩) := by
  refine of_got ?_
  rw [y_fn (rs := [.tmp 4]) (hO _ (by decide)) Tryz.func79 rfl (by kernel_rfl) rfl rfl]
  repeat (first | with_reducible (first | refine n_on ?_ | refine n_seq ?_ | refine s_else ?_ | refine n_t ?_ | refine n_gt ?_ | refine d_t ?_ | refine n_nil ?_ | refine d_nil ?_ | refine n_block ?_ | refine n_skip ?_ | refine n_bon ?_ | refine n_bback ?_ | refine n_back ?_ | refine n_out ?_ | refine n_bout rfl ?_ | refine n_bfar rfl ?_ | refine n_ret ?_ | refine n_exit ?_ | refine n_label ?_ | refine n_scope ?_ | refine n_son ?_ | refine n_sback ?_) | (with_reducible (first | apply n_region | apply d_region); (simp only [JV, JU, JW, Nat.reduceAdd, Nat.zero_add]; exact rfl)) | (with_reducible (first | apply s_op | apply n_guard | apply n_cond | apply d_guard | apply d_op | apply n_fin | apply n_finb); (simp (maxDischargeDepth := 6) only [sy3.1, zY, qG, qP, qQ, qR, qS, qT, rowAt, ↓jg, ↓ji, Nat.reduceAdd, Nat.reduceEqDiff, ne_eq, jG, Nat.reduceLT, if_true, ite_true, Int.reduceLE, Int.reduceLT, Int.reduceEq, Int.reduceNeg, Int.reduceAdd, Nat.reduceSub, if_false, ite_false, fs_49.1, sl_next, sl_cor, ss_step, se_ste, kind_pure, kind_load, kind_fresh, kind_other, jg, ji, undef]; first | exact rfl | exact ⟨rfl, rfl, rfl, rfl⟩); try (with_reducible refine calmK_in ?_; decide +kernel)))
  exact Ja (by rfl) (by rfl)
theorem hp_next (hO : Clear O) : ∀ (o : Tr AObj) (nx : Nat) (lg : List Nat), oCall Tryz.prog [] O (n + 2) 48 [.string ⟨#[110, 101, 120, 116]⟩, .string ⟨#[99, 111, 114, 111, 117, 116, 105, 110, 101, 46]⟩] ⟨o, nx, lg⟩ = some (.bool false, ⟨o, nx, lg⟩) := fun o nx lg => by
  refine of_got ?_
  have hq := fun (o : Tr AObj) nx lg => hq_next (n := n) (o := o) (nx := nx) (lg := lg) hO
  have co : codeOf Tryz.prog 79 = true := by kernel_rfl
  rw [y_fn (rs := [.tmp 4]) (hO _ (by decide)) Tryz.func48 rfl (by kernel_rfl) rfl rfl]
  repeat (first | with_reducible (first | refine n_on ?_ | refine n_seq ?_ | refine s_else ?_ | refine n_t ?_ | refine n_gt ?_ | refine d_t ?_ | refine n_nil ?_ | refine d_nil ?_ | refine n_block ?_ | refine n_skip ?_ | refine n_bon ?_ | refine n_bback ?_ | refine n_back ?_ | refine n_out ?_ | refine n_bout rfl ?_ | refine n_bfar rfl ?_ | refine n_ret ?_ | refine n_exit ?_ | refine n_label ?_ | refine n_scope ?_ | refine n_son ?_ | refine n_sback ?_) | (with_reducible (first | apply n_region | apply d_region); (simp only [JV, JU, JW, Nat.reduceAdd, Nat.zero_add]; exact rfl)) | (with_reducible (first | apply s_op | apply n_guard | apply n_cond | apply d_guard | apply d_op | apply n_fin | apply n_finb); (simp (maxDischargeDepth := 6) only [sy3.1, zY, qG, qP, qQ, qR, qS, qT, rowAt, ↓jg, ↓ji, Nat.reduceAdd, Nat.reduceEqDiff, ne_eq, jG, Nat.reduceLT, if_true, ite_true, Int.reduceLE, Int.reduceLT, Int.reduceEq, Int.reduceNeg, Int.reduceAdd, Nat.reduceSub, if_false, ite_false, fs_49.1, calleeV_func _ _ _ co, hq, kind_pure, kind_load, kind_fresh, kind_other, jg, ji, undef]; first | exact rfl | exact ⟨rfl, rfl, rfl, rfl⟩); try (with_reducible refine calmK_in ?_; decide +kernel)))
  exact Ja (by rfl) (by rfl)
theorem hq_pairs (hO : Clear O) : oCall Tryz.prog [] O (n + 1) 79 [.string ⟨#[112, 97, 105, 114, 115]⟩, .string ⟨#[99, 111, 114, 111, 117, 116, 105, 110, 101, 46]⟩] ⟨o, nx, lg⟩ = some (.bool false, ⟨o, nx, lg⟩) := by
  refine of_got ?_
  rw [y_fn (rs := [.tmp 4]) (hO _ (by decide)) Tryz.func79 rfl (by kernel_rfl) rfl rfl]
  repeat (first | with_reducible (first | refine n_on ?_ | refine n_seq ?_ | refine s_else ?_ | refine n_t ?_ | refine n_gt ?_ | refine d_t ?_ | refine n_nil ?_ | refine d_nil ?_ | refine n_block ?_ | refine n_skip ?_ | refine n_bon ?_ | refine n_bback ?_ | refine n_back ?_ | refine n_out ?_ | refine n_bout rfl ?_ | refine n_bfar rfl ?_ | refine n_ret ?_ | refine n_exit ?_ | refine n_label ?_ | refine n_scope ?_ | refine n_son ?_ | refine n_sback ?_) | (with_reducible (first | apply n_region | apply d_region); (simp only [JV, JU, JW, Nat.reduceAdd, Nat.zero_add]; exact rfl)) | (with_reducible (first | apply s_op | apply n_guard | apply n_cond | apply d_guard | apply d_op | apply n_fin | apply n_finb); (simp (maxDischargeDepth := 6) only [sy3.1, zY, qG, qP, qQ, qR, qS, qT, rowAt, ↓jg, ↓ji, Nat.reduceAdd, Nat.reduceEqDiff, ne_eq, jG, Nat.reduceLT, if_true, ite_true, Int.reduceLE, Int.reduceLT, Int.reduceEq, Int.reduceNeg, Int.reduceAdd, Nat.reduceSub, if_false, ite_false, fs_49.1, sl_pairs, sl_cor, ss_step, se_ste, kind_pure, kind_load, kind_fresh, kind_other, jg, ji, undef]; first | exact rfl | exact ⟨rfl, rfl, rfl, rfl⟩); try (with_reducible refine calmK_in ?_; decide +kernel)))
  exact Ja (by rfl) (by rfl)
theorem hp_pairs (hO : Clear O) : ∀ (o : Tr AObj) (nx : Nat) (lg : List Nat), oCall Tryz.prog [] O (n + 2) 48 [.string ⟨#[112, 97, 105, 114, 115]⟩, .string ⟨#[99, 111, 114, 111, 117, 116, 105, 110, 101, 46]⟩] ⟨o, nx, lg⟩ = some (.bool false, ⟨o, nx, lg⟩) := fun o nx lg => by
  refine of_got ?_
  have hq := fun (o : Tr AObj) nx lg => hq_pairs (n := n) (o := o) (nx := nx) (lg := lg) hO
  have co : codeOf Tryz.prog 79 = true := by kernel_rfl
  rw [y_fn (rs := [.tmp 4]) (hO _ (by decide)) Tryz.func48 rfl (by kernel_rfl) rfl rfl]
  repeat (first | with_reducible (first | refine n_on ?_ | refine n_seq ?_ | refine s_else ?_ | refine n_t ?_ | refine n_gt ?_ | refine d_t ?_ | refine n_nil ?_ | refine d_nil ?_ | refine n_block ?_ | refine n_skip ?_ | refine n_bon ?_ | refine n_bback ?_ | refine n_back ?_ | refine n_out ?_ | refine n_bout rfl ?_ | refine n_bfar rfl ?_ | refine n_ret ?_ | refine n_exit ?_ | refine n_label ?_ | refine n_scope ?_ | refine n_son ?_ | refine n_sback ?_) | (with_reducible (first | apply n_region | apply d_region); (simp only [JV, JU, JW, Nat.reduceAdd, Nat.zero_add]; exact rfl)) | (with_reducible (first | apply s_op | apply n_guard | apply n_cond | apply d_guard | apply d_op | apply n_fin | apply n_finb); (simp (maxDischargeDepth := 6) only [sy3.1, zY, qG, qP, qQ, qR, qS, qT, rowAt, ↓jg, ↓ji, Nat.reduceAdd, Nat.reduceEqDiff, ne_eq, jG, Nat.reduceLT, if_true, ite_true, Int.reduceLE, Int.reduceLT, Int.reduceEq, Int.reduceNeg, Int.reduceAdd, Nat.reduceSub, if_false, ite_false, fs_49.1, calleeV_func _ _ _ co, hq, kind_pure, kind_load, kind_fresh, kind_other, jg, ji, undef]; first | exact rfl | exact ⟨rfl, rfl, rfl, rfl⟩); try (with_reducible refine calmK_in ?_; decide +kernel)))
  exact Ja (by rfl) (by rfl)
theorem hq_ipairs (hO : Clear O) : oCall Tryz.prog [] O (n + 1) 79 [.string ⟨#[105, 112, 97, 105, 114, 115]⟩, .string ⟨#[99, 111, 114, 111, 117, 116, 105, 110, 101, 46]⟩] ⟨o, nx, lg⟩ = some (.bool false, ⟨o, nx, lg⟩) := by
  refine of_got ?_
  rw [y_fn (rs := [.tmp 4]) (hO _ (by decide)) Tryz.func79 rfl (by kernel_rfl) rfl rfl]
  repeat (first | with_reducible (first | refine n_on ?_ | refine n_seq ?_ | refine s_else ?_ | refine n_t ?_ | refine n_gt ?_ | refine d_t ?_ | refine n_nil ?_ | refine d_nil ?_ | refine n_block ?_ | refine n_skip ?_ | refine n_bon ?_ | refine n_bback ?_ | refine n_back ?_ | refine n_out ?_ | refine n_bout rfl ?_ | refine n_bfar rfl ?_ | refine n_ret ?_ | refine n_exit ?_ | refine n_label ?_ | refine n_scope ?_ | refine n_son ?_ | refine n_sback ?_) | (with_reducible (first | apply n_region | apply d_region); (simp only [JV, JU, JW, Nat.reduceAdd, Nat.zero_add]; exact rfl)) | (with_reducible (first | apply s_op | apply n_guard | apply n_cond | apply d_guard | apply d_op | apply n_fin | apply n_finb); (simp (maxDischargeDepth := 6) only [sy3.1, zY, qG, qP, qQ, qR, qS, qT, rowAt, ↓jg, ↓ji, Nat.reduceAdd, Nat.reduceEqDiff, ne_eq, jG, Nat.reduceLT, if_true, ite_true, Int.reduceLE, Int.reduceLT, Int.reduceEq, Int.reduceNeg, Int.reduceAdd, Nat.reduceSub, if_false, ite_false, fs_49.1, sl_ipairs, sl_cor, ss_step, se_ste, kind_pure, kind_load, kind_fresh, kind_other, jg, ji, undef]; first | exact rfl | exact ⟨rfl, rfl, rfl, rfl⟩); try (with_reducible refine calmK_in ?_; decide +kernel)))
  exact Ja (by rfl) (by rfl)
theorem hp_ipairs (hO : Clear O) : ∀ (o : Tr AObj) (nx : Nat) (lg : List Nat), oCall Tryz.prog [] O (n + 2) 48 [.string ⟨#[105, 112, 97, 105, 114, 115]⟩, .string ⟨#[99, 111, 114, 111, 117, 116, 105, 110, 101, 46]⟩] ⟨o, nx, lg⟩ = some (.bool false, ⟨o, nx, lg⟩) := fun o nx lg => by
  refine of_got ?_
  have hq := fun (o : Tr AObj) nx lg => hq_ipairs (n := n) (o := o) (nx := nx) (lg := lg) hO
  have co : codeOf Tryz.prog 79 = true := by kernel_rfl
  rw [y_fn (rs := [.tmp 4]) (hO _ (by decide)) Tryz.func48 rfl (by kernel_rfl) rfl rfl]
  repeat (first | with_reducible (first | refine n_on ?_ | refine n_seq ?_ | refine s_else ?_ | refine n_t ?_ | refine n_gt ?_ | refine d_t ?_ | refine n_nil ?_ | refine d_nil ?_ | refine n_block ?_ | refine n_skip ?_ | refine n_bon ?_ | refine n_bback ?_ | refine n_back ?_ | refine n_out ?_ | refine n_bout rfl ?_ | refine n_bfar rfl ?_ | refine n_ret ?_ | refine n_exit ?_ | refine n_label ?_ | refine n_scope ?_ | refine n_son ?_ | refine n_sback ?_) | (with_reducible (first | apply n_region | apply d_region); (simp only [JV, JU, JW, Nat.reduceAdd, Nat.zero_add]; exact rfl)) | (with_reducible (first | apply s_op | apply n_guard | apply n_cond | apply d_guard | apply d_op | apply n_fin | apply n_finb); (simp (maxDischargeDepth := 6) only [sy3.1, zY, qG, qP, qQ, qR, qS, qT, rowAt, ↓jg, ↓ji, Nat.reduceAdd, Nat.reduceEqDiff, ne_eq, jG, Nat.reduceLT, if_true, ite_true, Int.reduceLE, Int.reduceLT, Int.reduceEq, Int.reduceNeg, Int.reduceAdd, Nat.reduceSub, if_false, ite_false, fs_49.1, calleeV_func _ _ _ co, hq, kind_pure, kind_load, kind_fresh, kind_other, jg, ji, undef]; first | exact rfl | exact ⟨rfl, rfl, rfl, rfl⟩); try (with_reducible refine calmK_in ?_; decide +kernel)))
  exact Ja (by rfl) (by rfl)
theorem hq_ipairs_step (hO : Clear O) : oCall Tryz.prog [] O (n + 1) 79 [.string ⟨#[105, 112, 97, 105, 114, 115, 46, 115, 116, 101, 112]⟩, .string ⟨#[99, 111, 114, 111, 117, 116, 105, 110, 101, 46]⟩] ⟨o, nx, lg⟩ = some (.bool false, ⟨o, nx, lg⟩) := by
  refine of_got ?_
  rw [y_fn (rs := [.tmp 4]) (hO _ (by decide)) Tryz.func79 rfl (by kernel_rfl) rfl rfl]
  repeat (first | with_reducible (first | refine n_on ?_ | refine n_seq ?_ | refine s_else ?_ | refine n_t ?_ | refine n_gt ?_ | refine d_t ?_ | refine n_nil ?_ | refine d_nil ?_ | refine n_block ?_ | refine n_skip ?_ | refine n_bon ?_ | refine n_bback ?_ | refine n_back ?_ | refine n_out ?_ | refine n_bout rfl ?_ | refine n_bfar rfl ?_ | refine n_ret ?_ | refine n_exit ?_ | refine n_label ?_ | refine n_scope ?_ | refine n_son ?_ | refine n_sback ?_) | (with_reducible (first | apply n_region | apply d_region); (simp only [JV, JU, JW, Nat.reduceAdd, Nat.zero_add]; exact rfl)) | (with_reducible (first | apply s_op | apply n_guard | apply n_cond | apply d_guard | apply d_op | apply n_fin | apply n_finb); (simp (maxDischargeDepth := 6) only [sy3.1, zY, qG, qP, qQ, qR, qS, qT, rowAt, ↓jg, ↓ji, Nat.reduceAdd, Nat.reduceEqDiff, ne_eq, jG, Nat.reduceLT, if_true, ite_true, Int.reduceLE, Int.reduceLT, Int.reduceEq, Int.reduceNeg, Int.reduceAdd, Nat.reduceSub, if_false, ite_false, fs_49.1, sl_ipairs_step, sl_cor, ss_step, se_ste, kind_pure, kind_load, kind_fresh, kind_other, jg, ji, undef]; first | exact rfl | exact ⟨rfl, rfl, rfl, rfl⟩); try (with_reducible refine calmK_in ?_; decide +kernel)))
  exact Ja (by rfl) (by rfl)
theorem hp_ipairs_step (hO : Clear O) : ∀ (o : Tr AObj) (nx : Nat) (lg : List Nat), oCall Tryz.prog [] O (n + 2) 48 [.string ⟨#[105, 112, 97, 105, 114, 115, 46, 115, 116, 101, 112]⟩, .string ⟨#[99, 111, 114, 111, 117, 116, 105, 110, 101, 46]⟩] ⟨o, nx, lg⟩ = some (.bool false, ⟨o, nx, lg⟩) := fun o nx lg => by
  refine of_got ?_
  have hq := fun (o : Tr AObj) nx lg => hq_ipairs_step (n := n) (o := o) (nx := nx) (lg := lg) hO
  have co : codeOf Tryz.prog 79 = true := by kernel_rfl
  rw [y_fn (rs := [.tmp 4]) (hO _ (by decide)) Tryz.func48 rfl (by kernel_rfl) rfl rfl]
  repeat (first | with_reducible (first | refine n_on ?_ | refine n_seq ?_ | refine s_else ?_ | refine n_t ?_ | refine n_gt ?_ | refine d_t ?_ | refine n_nil ?_ | refine d_nil ?_ | refine n_block ?_ | refine n_skip ?_ | refine n_bon ?_ | refine n_bback ?_ | refine n_back ?_ | refine n_out ?_ | refine n_bout rfl ?_ | refine n_bfar rfl ?_ | refine n_ret ?_ | refine n_exit ?_ | refine n_label ?_ | refine n_scope ?_ | refine n_son ?_ | refine n_sback ?_) | (with_reducible (first | apply n_region | apply d_region); (simp only [JV, JU, JW, Nat.reduceAdd, Nat.zero_add]; exact rfl)) | (with_reducible (first | apply s_op | apply n_guard | apply n_cond | apply d_guard | apply d_op | apply n_fin | apply n_finb); (simp (maxDischargeDepth := 6) only [sy3.1, zY, qG, qP, qQ, qR, qS, qT, rowAt, ↓jg, ↓ji, Nat.reduceAdd, Nat.reduceEqDiff, ne_eq, jG, Nat.reduceLT, if_true, ite_true, Int.reduceLE, Int.reduceLT, Int.reduceEq, Int.reduceNeg, Int.reduceAdd, Nat.reduceSub, if_false, ite_false, fs_49.1, calleeV_func _ _ _ co, hq, kind_pure, kind_load, kind_fresh, kind_other, jg, ji, undef]; first | exact rfl | exact ⟨rfl, rfl, rfl, rfl⟩); try (with_reducible refine calmK_in ?_; decide +kernel)))
  exact Ja (by rfl) (by rfl)
end
end Go.Proofs.YtdfadipfhcikdaaGreatDoor
