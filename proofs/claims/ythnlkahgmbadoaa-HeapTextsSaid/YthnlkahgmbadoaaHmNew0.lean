/- Heap: New, on the abstract machine. -/
import Derived.Test.YthnlkahgmbadoaaHmCell
namespace Go.Proofs.Ythnlkahgmbadoaa
open Go.RowKit
set_option linter.unusedSimpArgs false
set_option linter.unusedVariables false
set_option maxRecDepth 100000

def hs0 (m : Int) : HS := ⟨m, 0, false, ⟨m, 0, 0, [], []⟩, [], [], []⟩
theorem good0 {m : Int} (h0 : 1 ≤ m) (h1 : m ≤ 16777216) : HGood (hs0 m) :=
  ⟨good_new m (by omega) (by omega), rfl, h1, List.nodup_nil, fun q hq => (by cases hq), rfl, Int.le_refl _⟩
section
variable {O : Helps} {n : Nat} {o : Tr AObj} {nx : Nat} {lg : List Nat} {w : Nat → Nat} {B : HB} {hs : HS}
/-- a new heap -/
def NewTo (o : Tr AObj) (nx : Nat) (lg : List Nat) (m : Int) (r : Value × AHeap) : Prop :=
  ∃ o' nx' lg' w' B, r = (.tuple #[.pointer (some ⟨B.i, 0, none⟩), .int .i64 0], ⟨o', nx', lg'⟩) ∧ nx ≤ nx' ∧ nx ≤ B.i ∧ HeapIn o' nx' w' B (hs0 m) ∧ (∀ x, x < nx → o'.get x = o.get x ∧ w' x = 0) ∧ ∀ y, y ∈ lg → y ∈ lg'
set_option maxHeartbeats 8000000 in
theorem hnew_ok (hO : Clear O) (m : Int) (h0 : 1 ≤ m) (h1 : m ≤ 16777216) : Got (oCall Try.prog [] O (n + 2) 5 [.int .i64 m] ⟨o, nx, lg⟩) (NewTo o nx lg m) := by
  have d0 : decide (m < 1) = false := decide_eq_false (by omega)
  have d1 : decide (16777216 < m) = false := decide_eq_false (by omega)
  rw [y_fn (rs := [.tmp 2, .tmp 3]) (hO _ (by decide)) Try.func5 rfl (by kernel_rfl) rfl rfl]
  repeat (first | with_reducible (first | refine n_on ?_ | refine n_seq ?_ | refine s_else ?_ | refine n_t ?_ | refine n_gt ?_ | refine d_t ?_ | refine n_nil ?_ | refine d_nil ?_ | refine n_block ?_ | refine n_skip ?_ | refine n_bon ?_ | refine n_bback ?_ | refine n_back ?_ | refine n_out ?_ | refine n_bout rfl ?_ | refine n_bfar rfl ?_ | refine n_ret ?_ | refine n_exit ?_ | refine n_label ?_ | refine n_scope ?_ | refine n_son ?_ | refine n_sback ?_) | (with_reducible (first | apply n_region | apply d_region); (simp only [JV, JU, JW, Nat.reduceAdd, Nat.zero_add]; exact rfl)) | (with_reducible (first | apply s_op | apply n_guard | apply n_cond | apply d_guard | apply d_op | apply n_fin | apply n_finb); (simp (maxDischargeDepth := 6) only [sy3.1, zY, qG, qP, qQ, qR, qS, qT, rowAt, ↓jg, ↓ji, Nat.reduceAdd, Nat.reduceEqDiff, ne_eq, jG, Nat.reduceLT, if_true, ite_true, Int.reduceLE, Int.reduceLT, Int.reduceEq, Int.reduceNeg, Int.reduceAdd, Nat.reduceSub, if_false, ite_false, fs_5.1, d0, d1, kind_pure, kind_load, kind_fresh, kind_other, jg, ji, undef]; first | exact rfl | exact ⟨rfl, rfl, rfl, rfl⟩); try (with_reducible refine calmK_in ?_; decide +kernel)))
  refine s_do _ (by
    simp (maxDischargeDepth := 6) only [sy3.1, zY, qG, qP, qQ, qR, qS, qT, rowAt, ↓jg, ↓ji, Nat.reduceAdd, Nat.reduceEqDiff, ne_eq, jG, Nat.reduceLT, if_true, ite_true, Int.reduceLE, Int.reduceLT, Int.reduceEq, Int.reduceNeg, Int.reduceAdd, Nat.reduceSub, if_false, ite_false, fs_5.1]
    exact pnew_ok hO m (by omega) (by omega)) ?_
  rintro v1 H1 ⟨o1, nx1, lg1, p, heq, hn1, hp, hP, hfr, hmo⟩
  cases heq
  have hplt := hP.lt
  repeat (first | with_reducible (first | refine n_on ?_ | refine n_seq ?_ | refine s_else ?_ | refine n_t ?_ | refine n_gt ?_ | refine d_t ?_ | refine n_nil ?_ | refine d_nil ?_ | refine n_block ?_ | refine n_skip ?_ | refine n_bon ?_ | refine n_bback ?_ | refine n_back ?_ | refine n_out ?_ | refine n_bout rfl ?_ | refine n_bfar rfl ?_ | refine n_ret ?_ | refine n_exit ?_ | refine n_label ?_ | refine n_scope ?_ | refine n_son ?_ | refine n_sback ?_) | (with_reducible (first | apply n_region | apply d_region); (simp only [JV, JU, JW, Nat.reduceAdd, Nat.zero_add]; exact rfl)) | (with_reducible (first | apply s_op | apply n_guard | apply n_cond | apply d_guard | apply d_op | apply n_fin | apply n_finb); (simp (maxDischargeDepth := 6) only [sy3.1, zY, qG, qP, qQ, qR, qS, qT, rowAt, ↓jg, ↓ji, Nat.reduceAdd, Nat.reduceEqDiff, ne_eq, jG, Nat.reduceLT, if_true, ite_true, Int.reduceLE, Int.reduceLT, Int.reduceEq, Int.reduceNeg, Int.reduceAdd, Nat.reduceSub, if_false, ite_false, fs_5.1, hplt, kind_pure, kind_load, kind_fresh, kind_other, jg, ji, undef]; first | exact rfl | exact ⟨rfl, rfl, rfl, rfl⟩); try (with_reducible refine calmK_in ?_; decide +kernel)))
  refine new_end (by show (Nat.blt (nx1 + 8) nx && _) = false; rw [blt_new (by omega)]; rfl) fun l' hmo2 _ => ?_
  refine ⟨_, _, _, fun x => if x = nx1 + 8 then 1 else if x = p then 2 else if x = nx1 + 4 then 5 else if x = nx1 + 5 then 6 else if x = nx1 + 6 then 7 else 0, ⟨nx1 + 8, p, none, none, nx1 + 4, nx1 + 5, nx1 + 6, fun _ => 0⟩, rfl, by omega, by show nx ≤ nx1 + 8; omega, ⟨fun x hx => ?_, if_pos rfl, ?_, fun q e => (by cases e), fun q e => (by cases e), ?_, ?_, ?_, ⟨0, qE _ _ _⟩, hP.keep (by omega) fun x hx => ?_, ⟨[], 0, ?_, rfl⟩, fun q hq => (by cases hq), ⟨[], 0, ?_, rfl⟩, ⟨[], 0, ?_, rfl⟩⟩, fun x hx => ⟨?_, ?_⟩, hmo2⟩
  · try simp only at hx
    by_cases e1 : x = nx1 + 8
    · omega
    · rw [if_neg e1] at hx
      by_cases e2 : x = p
      · omega
      · rw [if_neg e2] at hx
        by_cases e3 : x < nx1 + 11
        · exact e3
        · exfalso
          rw [if_neg (by omega), if_neg (by omega), if_neg (by omega)] at hx
          exact hx rfl
  · show (if p = nx1 + 8 then 1 else if p = p then 2 else _) = 2
    rw [if_neg (by omega), if_pos rfl]
  · show (if nx1 + 4 = nx1 + 8 then 1 else if nx1 + 4 = p then 2 else if nx1 + 4 = nx1 + 4 then 5 else _) = 5
    rw [if_neg (by omega), if_neg (by omega), if_pos rfl]
  · show (if nx1 + 5 = nx1 + 8 then 1 else if nx1 + 5 = p then 2 else if nx1 + 5 = nx1 + 4 then 5 else if nx1 + 5 = nx1 + 5 then 6 else _) = 6
    rw [if_neg (by omega), if_neg (by omega), if_neg (by omega), if_pos rfl]
  · show (if nx1 + 6 = nx1 + 8 then 1 else if nx1 + 6 = p then 2 else if nx1 + 6 = nx1 + 4 then 5 else if nx1 + 6 = nx1 + 5 then 6 else if nx1 + 6 = nx1 + 6 then 7 else 0) = 7
    rw [if_neg (by omega), if_neg (by omega), if_neg (by omega), if_neg (by omega), if_pos rfl]
  · have := hP.mine_lt hx
    (repeat (first | rw [qE] | rw [qF _ _ _ _ (by omega)]))
  · show Tr.get _ (nx1 + 4) = _
    (repeat (first | rw [qE] | rw [qF _ _ _ _ (by omega)]))
  · show Tr.get _ (nx1 + 5) = _
    (repeat (first | rw [qE] | rw [qF _ _ _ _ (by omega)]))
  · show Tr.get _ (nx1 + 6) = _
    (repeat (first | rw [qE] | rw [qF _ _ _ _ (by omega)]))
  · (repeat (first | rw [qE] | rw [qF _ _ _ _ (by omega)]))
    exact hfr x (by omega)
  · show (if x = nx1 + 8 then 1 else if x = p then 2 else if x = nx1 + 4 then 5 else if x = nx1 + 5 then 6 else if x = nx1 + 6 then 7 else 0) = 0
    rw [if_neg (by omega), if_neg (by omega), if_neg (by omega), if_neg (by omega), if_neg (by omega)]
end
end Go.Proofs.Ythnlkahgmbadoaa
