/- LibGoes: two lists compared (twinstepkit.SameValues). -/
import Derived.Test.YtdfadipfhcikdaaGreatDoorGoLaw3
namespace Go.Proofs.YtdfadipfhcikdaaGreatDoor
open Go.RowKit
set_option linter.unusedSimpArgs false
set_option linter.unusedVariables false
set_option maxRecDepth 100000
/-- a list of the law's: nil, or a block of its own -/
def SlG (o : Tr AObj) (nx : Nat) (a : Option Nat) (l : List VV) : Prop := (a = none ∧ l = []) ∨ ∃ j, a = some j ∧ j < nx ∧ o.get j = some (.row (vvCells l) 29 2 true)
theorem SlG.at {o : Tr AObj} {nx : Nat} {a : Option Nat} {l : List VV} (h : SlG o nx a l) {k : Nat} (hk : k < l.length) : ∃ j, a = some j ∧ j < nx ∧ o.get j = some (.row (vvCells l) 29 2 true) ∧ cut (vvCells l) (k * 2) 2 = some [.int .u8 (l[k]).1, .int .i64 (l[k]).2] := by
  rcases h with ⟨_, rfl⟩ | ⟨j, h1, h2, h3⟩
  · simp at hk
  · have := vv_cut hk []
    rw [List.append_nil] at this
    exact ⟨j, h1, h2, h3, this⟩
section
variable {O : Helps} {n : Nat} {o : Tr AObj} {nx : Nat} {lg : List Nat}
set_option maxHeartbeats 8000000 in
theorem sameG_ok (hO : Clear O) {a1 a2 : Option Nat} {l : List VV} (h1 : SlG o nx a1 l) (h2 : SlG o nx a2 l) (hb : l.length ≤ 900) :
    oCall Tryz.prog [] O (n + 1000) 10 [.slice (slA a1) l.length 0, .slice (slA a2) l.length 0] ⟨o, nx, lg⟩ = some (.bool true, ⟨o, nx, lg⟩) := by
  refine of_got ?_
  rw [y_fn (rs := [.tmp 4]) (hO _ (by decide)) Tryz.func10 rfl (by kernel_rfl) rfl rfl]
  have d1 : decide (l.length = l.length) = true := decide_eq_true rfl
  repeat (first | with_reducible (first | refine n_on ?_ | refine n_seq ?_ | refine s_else ?_ | refine n_t ?_ | refine n_gt ?_ | refine d_t ?_ | refine n_nil ?_ | refine d_nil ?_ | refine n_block ?_ | refine n_skip ?_ | refine n_bon ?_ | refine n_bback ?_ | refine n_back ?_ | refine n_out ?_ | refine n_bout rfl ?_ | refine n_bfar rfl ?_ | refine n_ret ?_ | refine n_exit ?_ | refine n_label ?_ | refine n_scope ?_ | refine n_son ?_ | refine n_sback ?_) | (with_reducible (first | apply n_region | apply d_region); (simp only [JV, JU, JW, Nat.reduceAdd, Nat.zero_add]; exact rfl)) | (with_reducible (first | apply s_op | apply n_guard | apply n_cond | apply d_guard | apply d_op | apply n_fin | apply n_finb); (simp (maxDischargeDepth := 6) only [sy3.1, zY, qG, qP, qQ, qR, qS, qT, rowAt, ↓jg, ↓ji, Nat.reduceAdd, Nat.reduceEqDiff, ne_eq, jG, Nat.reduceLT, if_true, ite_true, Int.reduceLE, Int.reduceLT, Int.reduceEq, Int.reduceNeg, Int.reduceAdd, Nat.reduceSub, if_false, ite_false, fs_10.1, d1, kind_pure, kind_load, kind_fresh, kind_other, jg, ji, undef]; first | exact rfl | exact ⟨rfl, rfl, rfl, rfl⟩); try (with_reducible refine calmK_in ?_; decide +kernel)))
  rw [y_loop_eq]
  refine y_loop (I := fun q e H => ∃ k nx', k + q = l.length ∧ H = (⟨o, nx', []⟩ : AHeap) ∧ nx ≤ nx' ∧ e.get 0 = some (.slice (slA a1) l.length 0) ∧ e.get 1 = some (.slice (slA a2) l.length 0) ∧ e.get 5 = some (.int .i64 (.ofNat k))) ?_ l.length _ _ _ ?_ (by omega)
  · rintro q e H ⟨k, nx', hk, rfl, hn, g0, g1, g5⟩
    by_cases hlt : k < l.length
    · obtain ⟨j1, rfl, hj1, hr1, hc1⟩ := h1.at hlt
      obtain ⟨j2, rfl, hj2, hr2, hc2⟩ := h2.at hlt
      have e1 : decide (k < l.length) = true := decide_eq_true hlt
      have b1 : Nat.blt k l.length = true := by rw [Nat.blt_eq]; exact hlt
      have hw := wrap_next k (by omega)
      have hk0 : 0 ≤ Int.ofNat k := Int.natCast_nonneg k
      simp only [slA, Option.map_some] at g0 g1
      repeat (first | with_reducible (first | refine n_on ?_ | refine n_seq ?_ | refine s_else ?_ | refine n_t ?_ | refine n_gt ?_ | refine d_t ?_ | refine n_nil ?_ | refine d_nil ?_ | refine n_block ?_ | refine n_skip ?_ | refine n_bon ?_ | refine n_bback ?_ | refine n_back ?_ | refine n_out ?_ | refine n_bout rfl ?_ | refine n_bfar rfl ?_ | refine n_ret ?_ | refine n_exit ?_ | refine n_label ?_ | refine n_scope ?_ | refine n_son ?_ | refine n_sback ?_) | (with_reducible (first | apply n_region | apply d_region); (simp only [JV, JU, JW, Nat.reduceAdd, Nat.zero_add]; exact rfl)) | (with_reducible (first | apply s_op | apply n_guard | apply n_cond | apply d_guard | apply d_op | apply n_fin | apply n_finb); (simp (maxDischargeDepth := 6) only [sy3.1, zY, qG, qP, qQ, qR, qS, qT, rowAt, ↓jg, ↓ji, Nat.reduceAdd, Nat.reduceEqDiff, ne_eq, jG, Nat.reduceLT, if_true, ite_true, Int.reduceLE, Int.reduceLT, Int.reduceEq, Int.reduceNeg, Int.reduceAdd, Nat.reduceSub, if_false, ite_false, fs_10.1, e1, g0, g1, g5, hk0, hw, indexAt, Option.isNone_none, Nat.zero_add, b1, hr1, hr2, hc1, hc2, hj1, hj2, vv_ne_same, kind_pure, kind_load, kind_fresh, kind_other, jg, ji, undef]; first | exact rfl | exact ⟨rfl, rfl, rfl, rfl⟩); try (with_reducible refine calmK_in ?_; decide +kernel)))
      refine ⟨q - 1, by omega, k + 1, _, by omega, rfl, by omega, ?_, ?_, ?_⟩
      · simp only [qC, qD, qE, qF, Tr.get_nil, ne_eq, not_false_eq_true, Nat.reduceEqDiff, g0]; rfl
      · simp only [qC, qD, qE, qF, Tr.get_nil, ne_eq, not_false_eq_true, Nat.reduceEqDiff, g1]; rfl
      · simp only [qC, qD, qE, qF, Tr.get_nil, ne_eq, not_false_eq_true, Nat.reduceEqDiff]
    · have hke : k = l.length := by omega
      subst hke
      have e1 : decide (l.length < l.length) = false := decide_eq_false (by omega)
      repeat (first | with_reducible (first | refine n_on ?_ | refine n_seq ?_ | refine s_else ?_ | refine n_t ?_ | refine n_gt ?_ | refine d_t ?_ | refine n_nil ?_ | refine d_nil ?_ | refine n_block ?_ | refine n_skip ?_ | refine n_bon ?_ | refine n_bback ?_ | refine n_back ?_ | refine n_out ?_ | refine n_bout rfl ?_ | refine n_bfar rfl ?_ | refine n_ret ?_ | refine n_exit ?_ | refine n_label ?_ | refine n_scope ?_ | refine n_son ?_ | refine n_sback ?_) | (with_reducible (first | apply n_region | apply d_region); (simp only [JV, JU, JW, Nat.reduceAdd, Nat.zero_add]; exact rfl)) | (with_reducible (first | apply s_op | apply n_guard | apply n_cond | apply d_guard | apply d_op | apply n_fin | apply n_finb); (simp (maxDischargeDepth := 6) only [sy3.1, zY, qG, qP, qQ, qR, qS, qT, rowAt, ↓jg, ↓ji, Nat.reduceAdd, Nat.reduceEqDiff, ne_eq, jG, Nat.reduceLT, if_true, ite_true, Int.reduceLE, Int.reduceLT, Int.reduceEq, Int.reduceNeg, Int.reduceAdd, Nat.reduceSub, if_false, ite_false, fs_10.1, e1, g0, g1, g5, kind_pure, kind_load, kind_fresh, kind_other, jg, ji, undef]; first | exact rfl | exact ⟨rfl, rfl, rfl, rfl⟩); try (with_reducible refine calmK_in ?_; decide +kernel)))
      try exact Ja (by simp only [all_relogL, js, ju, List.all_nil, jt, Bool.and_self]) (by rfl)
  · refine ⟨0, _, by omega, rfl, by omega, ?_, ?_, ?_⟩
    · simp only [qG, qC, qD, qE, qF, Tr.get_nil, ne_eq, not_false_eq_true, Nat.reduceEqDiff]
    · simp only [qG, qC, qD, qE, qF, Tr.get_nil, ne_eq, not_false_eq_true, Nat.reduceEqDiff]
    · simp only [qG, qC, qD, qE, qF, Tr.get_nil, ne_eq, not_false_eq_true, Nat.reduceEqDiff]; rfl
end
end Go.Proofs.YtdfadipfhcikdaaGreatDoor
