/- Heap: New, Cells, on the abstract machine. -/
import Derived.Test.YtckahbnkdiamjaaHmFunc2
namespace Go.Proofs.Ytckahbnkdiamjaa
open Go.RowKit
set_option linter.unusedSimpArgs false
set_option linter.unusedVariables false
set_option maxRecDepth 100000

def hs0 (m : Int) : HS := ⟨m, 0, false, ⟨m, 0, 0, [], []⟩, [], [], []⟩
theorem good0 {m : Int} (h0 : 1 ≤ m) (h1 : m ≤ 16777216) : HGood (hs0 m) :=
  ⟨good_new m (by omega) (by omega), rfl, h1, List.nodup_nil, fun q hq => (by cases hq), rfl, Int.le_refl _⟩
def cellsO (hs : HS) (v : VV) : List VV := match ofO hs v 6 with
  | some ob => ob.cells
  | none => []
section
variable {O : Helps} {n : Nat} {o : Tr AObj} {nx : Nat} {lg : List Nat} {w : Nat → Nat} {B : HB} {hs : HS}
/-- a new heap -/
def NewTo (o : Tr AObj) (nx : Nat) (lg : List Nat) (m : Int) (r : Value × AHeap) : Prop :=
  ∃ o' nx' lg' w' B, r = (.tuple #[.pointer (some ⟨B.i, 0, none⟩), .int .i64 0], ⟨o', nx', lg'⟩) ∧ nx ≤ nx' ∧ nx ≤ B.i ∧ HeapIn o' nx' w' B (hs0 m) ∧ (∀ x, x < nx → o'.get x = o.get x ∧ w' x = 0) ∧ ∀ y, y ∈ lg → y ∈ lg'
set_option maxHeartbeats 8000000 in
theorem hnew_ok (hO : Clear O) (m : Int) (h0 : 1 ≤ m) (h1 : m ≤ 16777216) : Got (oCall Try.prog [] O (n + 2) 39 [.int .i64 m] ⟨o, nx, lg⟩) (NewTo o nx lg m) := by
  have d0 : decide (m < 1) = false := decide_eq_false (by omega)
  have d1 : decide (16777216 < m) = false := decide_eq_false (by omega)
  rw [y_fn (rs := [.tmp 2, .tmp 3]) (hO _ (by decide)) Try.func39 rfl (by kernel_rfl) rfl rfl]
  repeat (first | with_reducible (first | refine n_on ?_ | refine n_seq ?_ | refine s_else ?_ | refine n_t ?_ | refine n_gt ?_ | refine d_t ?_ | refine n_nil ?_ | refine d_nil ?_ | refine n_block ?_ | refine n_skip ?_ | refine n_bon ?_ | refine n_bback ?_ | refine n_back ?_ | refine n_out ?_ | refine n_bout rfl ?_ | refine n_bfar rfl ?_ | refine n_ret ?_ | refine n_exit ?_ | refine n_label ?_ | refine n_scope ?_ | refine n_son ?_ | refine n_sback ?_) | (with_reducible (first | apply n_region | apply d_region); (simp only [JV, JU, JW, Nat.reduceAdd, Nat.zero_add]; exact rfl)) | (with_reducible (first | apply s_op | apply n_guard | apply n_cond | apply d_guard | apply d_op | apply n_fin | apply n_finb); (simp (maxDischargeDepth := 6) only [sy3.1, zY, qG, qP, qQ, qR, qS, qT, rowAt, ↓jg, ↓ji, Nat.reduceAdd, Nat.reduceEqDiff, ne_eq, jG, Nat.reduceLT, if_true, ite_true, Int.reduceLE, Int.reduceLT, Int.reduceEq, Int.reduceNeg, Int.reduceAdd, Nat.reduceSub, if_false, ite_false, fs_39.1, d0, d1, kind_pure, kind_load, kind_fresh, kind_other, jg, ji, undef]; first | exact rfl | exact ⟨rfl, rfl, rfl, rfl⟩); try (with_reducible refine calmK_in ?_; decide +kernel)))
  refine s_do _ (by
    simp (maxDischargeDepth := 6) only [sy3.1, zY, qG, qP, qQ, qR, qS, qT, rowAt, ↓jg, ↓ji, Nat.reduceAdd, Nat.reduceEqDiff, ne_eq, jG, Nat.reduceLT, if_true, ite_true, Int.reduceLE, Int.reduceLT, Int.reduceEq, Int.reduceNeg, Int.reduceAdd, Nat.reduceSub, if_false, ite_false, fs_39.1]
    exact pnew_ok hO m (by omega) (by omega)) ?_
  rintro v1 H1 ⟨o1, nx1, lg1, p, heq, hn1, hp, hP, hfr, hmo⟩
  cases heq
  have hplt := hP.lt
  repeat (first | with_reducible (first | refine n_on ?_ | refine n_seq ?_ | refine s_else ?_ | refine n_t ?_ | refine n_gt ?_ | refine d_t ?_ | refine n_nil ?_ | refine d_nil ?_ | refine n_block ?_ | refine n_skip ?_ | refine n_bon ?_ | refine n_bback ?_ | refine n_back ?_ | refine n_out ?_ | refine n_bout rfl ?_ | refine n_bfar rfl ?_ | refine n_ret ?_ | refine n_exit ?_ | refine n_label ?_ | refine n_scope ?_ | refine n_son ?_ | refine n_sback ?_) | (with_reducible (first | apply n_region | apply d_region); (simp only [JV, JU, JW, Nat.reduceAdd, Nat.zero_add]; exact rfl)) | (with_reducible (first | apply s_op | apply n_guard | apply n_cond | apply d_guard | apply d_op | apply n_fin | apply n_finb); (simp (maxDischargeDepth := 6) only [sy3.1, zY, qG, qP, qQ, qR, qS, qT, rowAt, ↓jg, ↓ji, Nat.reduceAdd, Nat.reduceEqDiff, ne_eq, jG, Nat.reduceLT, if_true, ite_true, Int.reduceLE, Int.reduceLT, Int.reduceEq, Int.reduceNeg, Int.reduceAdd, Nat.reduceSub, if_false, ite_false, fs_39.1, hplt, kind_pure, kind_load, kind_fresh, kind_other, jg, ji, undef]; first | exact rfl | exact ⟨rfl, rfl, rfl, rfl⟩); try (with_reducible refine calmK_in ?_; decide +kernel)))
  refine new_end (by show (Nat.blt (nx1 + 8) nx && _) = false; rw [blt_new (by omega)]; rfl) fun l' hmo2 _ => ?_
  refine ⟨_, _, _, fun x => if x = nx1 + 8 then 1 else if x = p then 2 else if x = nx1 + 4 then 5 else if x = nx1 + 5 then 6 else if x = nx1 + 6 then 7 else 0, ⟨nx1 + 8, p, none, none, nx1 + 4, nx1 + 5, nx1 + 6, fun _ => 0⟩, rfl, by omega, by show nx ≤ nx1 + 8; omega, ⟨fun x hx => ?_, if_pos rfl, ?_, fun q e => (by cases e), fun q e => (by cases e), ?_, ?_, ?_, ⟨0, qE _ _ _⟩, hP.keep (by omega) fun x hx => ?_, ⟨[], 0, ?_, rfl⟩, fun q hq => (by cases hq), ⟨[], 0, ?_, rfl⟩, ⟨[], 0, ?_, rfl⟩⟩, fun x hx => ⟨?_, ?_⟩, hmo2⟩
  · try simp only at hx
    by_cases e1 : x = nx1 + 8
    · omega
    · rw [if_neg e1] at hx
      by_cases e2 : x = p
      · omega
      · rw [if_neg e2] at hx
        by_cases e3 : x < nx1 + 11
        · exact e3
        · exfalso
          rw [if_neg (by omega), if_neg (by omega), if_neg (by omega)] at hx
          exact hx rfl
  · show (if p = nx1 + 8 then 1 else if p = p then 2 else _) = 2
    rw [if_neg (by omega), if_pos rfl]
  · show (if nx1 + 4 = nx1 + 8 then 1 else if nx1 + 4 = p then 2 else if nx1 + 4 = nx1 + 4 then 5 else _) = 5
    rw [if_neg (by omega), if_neg (by omega), if_pos rfl]
  · show (if nx1 + 5 = nx1 + 8 then 1 else if nx1 + 5 = p then 2 else if nx1 + 5 = nx1 + 4 then 5 else if nx1 + 5 = nx1 + 5 then 6 else _) = 6
    rw [if_neg (by omega), if_neg (by omega), if_neg (by omega), if_pos rfl]
  · show (if nx1 + 6 = nx1 + 8 then 1 else if nx1 + 6 = p then 2 else if nx1 + 6 = nx1 + 4 then 5 else if nx1 + 6 = nx1 + 5 then 6 else if nx1 + 6 = nx1 + 6 then 7 else 0) = 7
    rw [if_neg (by omega), if_neg (by omega), if_neg (by omega), if_neg (by omega), if_pos rfl]
  · have := hP.mine_lt hx
    (repeat (first | rw [qE] | rw [qF _ _ _ _ (by omega)]))
  · show Tr.get _ (nx1 + 4) = _
    (repeat (first | rw [qE] | rw [qF _ _ _ _ (by omega)]))
  · show Tr.get _ (nx1 + 5) = _
    (repeat (first | rw [qE] | rw [qF _ _ _ _ (by omega)]))
  · show Tr.get _ (nx1 + 6) = _
    (repeat (first | rw [qE] | rw [qF _ _ _ _ (by omega)]))
  · (repeat (first | rw [qE] | rw [qF _ _ _ _ (by omega)]))
    exact hfr x (by omega)
  · show (if x = nx1 + 8 then 1 else if x = p then 2 else if x = nx1 + 4 then 5 else if x = nx1 + 5 then 6 else if x = nx1 + 6 then 7 else 0) = 0
    rw [if_neg (by omega), if_neg (by omega), if_neg (by omega), if_neg (by omega), if_neg (by omega)]
/-- a list of values, told anew -/
def ListTo (o : Tr AObj) (nx : Nat) (lg : List Nat) (l : List VV) (r : Value × AHeap) : Prop :=
  ∃ ca cc o' nx', r = (.slice (slA ca) l.length cc, ⟨o', nx', lg⟩) ∧ nx ≤ nx' ∧ ValsIn o' nx' ca l ∧ SlOk ca l cc ∧ (∀ q, ca = some q → nx ≤ q) ∧ ∀ x, x < nx → o'.get x = o.get x
theorem ListTo.nil : ListTo o nx lg [] (.slice none 0 0, ⟨o, nx, lg⟩) := ⟨none, 0, _, _, rfl, Nat.le_refl _, .inl ⟨rfl, rfl⟩, .inl rfl, fun q e => (by cases e), fun _ _ => rfl⟩
set_option maxHeartbeats 16000000 in
theorem cells_ok (hO : Clear O) (h : HeapIn o nx w B hs) (v : VV) (hl : (cellsO hs v).length ≤ 1000000) : Got (oCall Try.prog [] O (n + 4) 33 [.pointer (some ⟨B.i, 0, none⟩), .agg #[.int .u8 v.1, .int .i64 v.2]] ⟨o, nx, lg⟩) (ListTo o nx lg (cellsO hs v)) := by
  have hof := fun (X : AObj) (q : Nat) (lg : List Nat) => of_ok (n := n) (lg := lg) hO (more1 h (some X) q) v 6
  unfold cellsO ofO at hl ⊢
  rw [y_fn (rs := [.tmp 4]) (hO _ (by decide)) Try.func33 rfl (by kernel_rfl) rfl rfl]
  by_cases h9 : v.1 = 6
  · rw [if_pos h9] at hof hl ⊢
    unfold foundV at hof
    cases hf : findO hs v with
    | none =>
      rw [hf] at hof
      repeat (first | with_reducible (first | refine n_on ?_ | refine n_seq ?_ | refine s_else ?_ | refine n_t ?_ | refine n_gt ?_ | refine d_t ?_ | refine n_nil ?_ | refine d_nil ?_ | refine n_block ?_ | refine n_skip ?_ | refine n_bon ?_ | refine n_bback ?_ | refine n_back ?_ | refine n_out ?_ | refine n_bout rfl ?_ | refine n_bfar rfl ?_ | refine n_ret ?_ | refine n_exit ?_ | refine n_label ?_ | refine n_scope ?_ | refine n_son ?_ | refine n_sback ?_) | (with_reducible (first | apply n_region | apply d_region); (simp only [JV, JU, JW, Nat.reduceAdd, Nat.zero_add]; exact rfl)) | (with_reducible (first | apply s_op | apply n_guard | apply n_cond | apply d_guard | apply d_op | apply n_fin | apply n_finb); (simp (maxDischargeDepth := 6) only [sy3.1, zY, qG, qP, qQ, qR, qS, qT, rowAt, ↓jg, ↓ji, Nat.reduceAdd, Nat.reduceEqDiff, ne_eq, jG, Nat.reduceLT, if_true, ite_true, Int.reduceLE, Int.reduceLT, Int.reduceEq, Int.reduceNeg, Int.reduceAdd, Nat.reduceSub, if_false, ite_false, fs_33.1, hof, ptr0_neq, kind_pure, kind_load, kind_fresh, kind_other, jg, ji, undef]; first | exact rfl | exact ⟨rfl, rfl, rfl, rfl⟩); try (with_reducible refine calmK_in ?_; decide +kernel)))
      exact quiet_end (by simp only [all_relogL, js, ju, List.all_nil, jt, Bool.and_self]) (by rfl) ListTo.nil
    | some ob =>
      rw [hf] at hof hl
      obtain ⟨hm, hkd⟩ := found_in hf
      have hob := h.obs _ hm
      obtain ⟨tp, sp, ca, cc, zz, hro, hv, hcc, _⟩ := hob.ex
      have hbl := hob.lt
      simp only at hro hbl hl hv hcc
      have halt : ∀ j, ca = some j → j < nx := fun j e => by
        rcases hv with ⟨e2, _⟩ | ⟨_, _, e2, hj, _⟩
        · rw [e] at e2; cases e2
        · rw [e] at e2; cases e2; exact hj
      repeat (first | with_reducible (first | refine n_on ?_ | refine n_seq ?_ | refine s_else ?_ | refine n_t ?_ | refine n_gt ?_ | refine d_t ?_ | refine n_nil ?_ | refine d_nil ?_ | refine n_block ?_ | refine n_skip ?_ | refine n_bon ?_ | refine n_bback ?_ | refine n_back ?_ | refine n_out ?_ | refine n_bout rfl ?_ | refine n_bfar rfl ?_ | refine n_ret ?_ | refine n_exit ?_ | refine n_label ?_ | refine n_scope ?_ | refine n_son ?_ | refine n_sback ?_) | (with_reducible (first | apply n_region | apply d_region); (simp only [JV, JU, JW, Nat.reduceAdd, Nat.zero_add]; exact rfl)) | (with_reducible (first | apply s_op | apply n_guard | apply n_cond | apply d_guard | apply d_op | apply n_fin | apply n_finb); (simp (maxDischargeDepth := 6) only [sy3.1, zY, qG, qP, qQ, qR, qS, qT, rowAt, ↓jg, ↓ji, Nat.reduceAdd, Nat.reduceEqDiff, ne_eq, jG, Nat.reduceLT, if_true, ite_true, Int.reduceLE, Int.reduceLT, Int.reduceEq, Int.reduceNeg, Int.reduceAdd, Nat.reduceSub, if_false, ite_false, fs_33.1, obRow, hof, hro, hbl, kind_pure, kind_load, kind_fresh, kind_other, jg, ji, undef]; first | exact rfl | exact ⟨rfl, rfl, rfl, rfl⟩); try (with_reducible refine calmK_in ?_; decide +kernel)))
      refine s_do _ (by
        simp (maxDischargeDepth := 6) only [sy3.1, zY, qG, qP, qQ, qR, qS, qT, rowAt, ↓jg, ↓ji, Nat.reduceAdd, Nat.reduceEqDiff, ne_eq, jG, Nat.reduceLT, if_true, ite_true, Int.reduceLE, Int.reduceLT, Int.reduceEq, Int.reduceNeg, Int.reduceAdd, Nat.reduceSub, if_false, ite_false, fs_33.1]
        exact vclone_ok hO (hv.keep (by omega) fun j e => by have := halt j e; (repeat (first | rw [qE] | rw [qF _ _ _ _ (by omega)]))) (SlOk.nil0 hcc) hl) ?_
      rintro v1 H1 ⟨ca2, cc2, o1, nx1, heq, hn1, hv1, hc1, hca1, hfr1, _, _⟩
      cases heq
      repeat (first | with_reducible (first | refine n_on ?_ | refine n_seq ?_ | refine s_else ?_ | refine n_t ?_ | refine n_gt ?_ | refine d_t ?_ | refine n_nil ?_ | refine d_nil ?_ | refine n_block ?_ | refine n_skip ?_ | refine n_bon ?_ | refine n_bback ?_ | refine n_back ?_ | refine n_out ?_ | refine n_bout rfl ?_ | refine n_bfar rfl ?_ | refine n_ret ?_ | refine n_exit ?_ | refine n_label ?_ | refine n_scope ?_ | refine n_son ?_ | refine n_sback ?_) | (with_reducible (first | apply n_region | apply d_region); (simp only [JV, JU, JW, Nat.reduceAdd, Nat.zero_add]; exact rfl)) | (with_reducible (first | apply s_op | apply n_guard | apply n_cond | apply d_guard | apply d_op | apply n_fin | apply n_finb); (simp (maxDischargeDepth := 6) only [sy3.1, zY, qG, qP, qQ, qR, qS, qT, rowAt, ↓jg, ↓ji, Nat.reduceAdd, Nat.reduceEqDiff, ne_eq, jG, Nat.reduceLT, if_true, ite_true, Int.reduceLE, Int.reduceLT, Int.reduceEq, Int.reduceNeg, Int.reduceAdd, Nat.reduceSub, if_false, ite_false, fs_33.1, hof, kind_pure, kind_load, kind_fresh, kind_other, jg, ji, undef]; first | exact rfl | exact ⟨rfl, rfl, rfl, rfl⟩); try (with_reducible refine calmK_in ?_; decide +kernel)))
      have hfr2 : ∀ x, x < nx → o1.get x = o.get x := fun x hx => by
        rw [hfr1 x (by omega)]; (repeat (first | rw [qE] | rw [qF _ _ _ _ (by omega)]))
      cases ca2 with
      | none =>
        have e0 : ob.cells = [] := by
          rcases hv1 with ⟨_, e⟩ | ⟨_, _, e, _⟩
          · exact e
          · cases e
        have e1 : cc2 = 0 := hc1.resolve_right fun h => h.2.2 rfl
        subst e1
        refine quiet_end (by rfl) (by simp only [e0]; rfl) ?_
        simp only [e0]
        exact ListTo.nil
      | some q =>
        have hq := hca1 q rfl
        unfold ListTo
        exact ⟨some q, cc2, o1, _, leave_new (by rfl) (show Nat.blt q nx = false from blt_new (by omega)), by omega, hv1.keep (by omega) fun _ _ => rfl, hc1, fun q2 e => by cases e; omega, hfr2⟩
  · rw [if_neg h9] at hof ⊢
    repeat (first | with_reducible (first | refine n_on ?_ | refine n_seq ?_ | refine s_else ?_ | refine n_t ?_ | refine n_gt ?_ | refine d_t ?_ | refine n_nil ?_ | refine d_nil ?_ | refine n_block ?_ | refine n_skip ?_ | refine n_bon ?_ | refine n_bback ?_ | refine n_back ?_ | refine n_out ?_ | refine n_bout rfl ?_ | refine n_bfar rfl ?_ | refine n_ret ?_ | refine n_exit ?_ | refine n_label ?_ | refine n_scope ?_ | refine n_son ?_ | refine n_sback ?_) | (with_reducible (first | apply n_region | apply d_region); (simp only [JV, JU, JW, Nat.reduceAdd, Nat.zero_add]; exact rfl)) | (with_reducible (first | apply s_op | apply n_guard | apply n_cond | apply d_guard | apply d_op | apply n_fin | apply n_finb); (simp (maxDischargeDepth := 6) only [sy3.1, zY, qG, qP, qQ, qR, qS, qT, rowAt, ↓jg, ↓ji, Nat.reduceAdd, Nat.reduceEqDiff, ne_eq, jG, Nat.reduceLT, if_true, ite_true, Int.reduceLE, Int.reduceLT, Int.reduceEq, Int.reduceNeg, Int.reduceAdd, Nat.reduceSub, if_false, ite_false, fs_33.1, hof, ptr0_neq, kind_pure, kind_load, kind_fresh, kind_other, jg, ji, undef]; first | exact rfl | exact ⟨rfl, rfl, rfl, rfl⟩); try (with_reducible refine calmK_in ?_; decide +kernel)))
    exact quiet_end (by simp only [all_relogL, js, ju, List.all_nil, jt, Bool.and_self]) (by rfl) ListTo.nil
end
end Go.Proofs.Ytckahbnkdiamjaa
