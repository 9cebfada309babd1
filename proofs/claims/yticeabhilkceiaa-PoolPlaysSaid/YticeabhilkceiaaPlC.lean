/- The document's pool, on the abstract machine: Resize. -/
import Derived.Test.YticeabhilkceiaaPlB
namespace Go.Proofs.Yticeabhilkceiaa
open Go.RowKit
set_option linter.unusedSimpArgs false
set_option linter.unusedVariables false
set_option maxRecDepth 100000

section
variable {O : Helps} {n : Nat} {o : Tr AObj} {nx : Nat} {lg : List Nat} {a b : Option Nat} {bd : Int} {ids sizes : List Int}
theorem sum_at : ∀ {l : List Int} {k : Nat}, (∀ s ∈ l, 0 ≤ s) → k < l.length → 0 ≤ l.getD k 0 ∧ l.getD k 0 ≤ sumL l
  | [], k, _, h => by simp at h
  | x :: l, 0, h, _ => by
    have := sum_nn (l := l) fun s hs => h s (by simp [hs])
    have h0 := h x (by simp)
    simp only [List.getD, List.getElem?_cons_zero, Option.getD_some, sumL]
    omega
  | x :: l, k + 1, h, hk => by
    have := sum_at (l := l) (k := k) (fun s hs => h s (by simp [hs])) (by simpa using hk)
    have h0 := h x (by simp)
    have e : (x :: l).getD (k + 1) 0 = l.getD k 0 := by simp [List.getD]
    rw [e]
    simp only [sumL]
    omega
set_option maxHeartbeats 16000000 in
theorem rresize_ok (hO : Clear O) (ha : RIn o nx a ids) (hb : RIn o nx b sizes) (hls : ids.length = sizes.length) (hl : ids.length ≤ 1000) (h0 : ∀ s ∈ sizes, 0 ≤ s) (hs : sumL sizes ≤ bd) (hbd : bd ≤ 1073741824) (hn : ids.length < n) (id size : Int) :
    Got (oCall Try.prog [] O (n + 2) 12 [rpV bd a b ids sizes, .int .i64 id, .int .i64 size] ⟨o, nx, lg⟩) (RpTo o nx lg a b bd (resizeL bd ids sizes id size).1.1 (resizeL bd ids sizes id size).1.2 (mk2 (resizeL bd ids sizes id size).2)) := by
  have hpl := fun (X Y : AObj) (q : Nat) (lg : List Nat) => rplace_ok (n := n) (b := b) (bd := bd) (sizes := sizes) (lg := lg) hO (ha.ints.keep (o' := (o.put nx (some X)).put (nx + 1) (some Y)) (nx' := nx + (q + 2)) (by omega) fun j e => by have := ha.lt e; (repeat (first | rw [qE] | rw [qF _ _ _ _ (by omega)]))) (by omega) hn id
  have hus := fun (X Y : AObj) (q : Nat) (lg : List Nat) => rused_ok (n := n) (a := a) (bd := bd) (ids := ids) (lg := lg) hO (hb.ints.keep (o' := (o.put nx (some X)).put (nx + 1) (some Y)) (nx' := nx + (q + 2)) (by omega) fun j e => by have := hb.lt e; (repeat (first | rw [qE] | rw [qF _ _ _ _ (by omega)]))) h0 (by omega) (by omega) (by omega)
  unfold resizeL
  rw [y_fn (rs := [.cell 6 29, .tmp 7]) (hO _ (by decide)) Try.func12 rfl (by kernel_rfl) rfl rfl]
  cases hp : placeN ids id 0 with
  | none =>
    rw [hp] at hpl
    have d1 : decide ((-1 : Int) < 0) = true := by decide
    repeat (first | with_reducible (first | refine n_on ?_ | refine n_seq ?_ | refine s_else ?_ | refine n_t ?_ | refine n_gt ?_ | refine d_t ?_ | refine n_nil ?_ | refine d_nil ?_ | refine n_block ?_ | refine n_skip ?_ | refine n_bon ?_ | refine n_bback ?_ | refine n_back ?_ | refine n_out ?_ | refine n_bout rfl ?_ | refine n_bfar rfl ?_ | refine n_ret ?_ | refine n_exit ?_ | refine n_label ?_ | refine n_scope ?_ | refine n_son ?_ | refine n_sback ?_) | (with_reducible (first | apply n_region | apply d_region); (simp only [JV, JU, JW, Nat.reduceAdd, Nat.zero_add]; exact rfl)) | (with_reducible (first | apply s_op | apply n_guard | apply n_cond | apply d_guard | apply d_op | apply n_fin | apply n_finb); (simp (maxDischargeDepth := 6) only [sy3.1, zY, qG, qP, qQ, qR, qS, qT, rowAt, ↓jg, ↓ji, Nat.reduceAdd, Nat.reduceEqDiff, ne_eq, jG, Nat.reduceLT, if_true, ite_true, Int.reduceLE, Int.reduceLT, Int.reduceEq, Int.reduceNeg, Int.reduceAdd, Nat.reduceSub, if_false, ite_false, fs_12.1, rpV, hpl, ixN, d1, kind_pure, kind_load, kind_fresh, kind_other, jg, ji, undef]; first | exact rfl | exact ⟨rfl, rfl, rfl, rfl⟩); try (with_reducible refine calmK_in ?_; decide +kernel)))
    exact rp_same2 ha hb _ (by simp only [all_relogL, js, ju, List.all_nil, jt, Bool.and_self])
  | some k =>
    rw [hp] at hpl
    have hk := (place_lt hp).2
    have d1 : decide (Int.ofNat k < 0) = false := decide_eq_false (by simp only [Int.ofNat_eq_natCast]; omega)
    simp only
    by_cases h1 : size < 0
    · rw [if_pos h1]
      repeat (first | with_reducible (first | refine n_on ?_ | refine n_seq ?_ | refine s_else ?_ | refine n_t ?_ | refine n_gt ?_ | refine d_t ?_ | refine n_nil ?_ | refine d_nil ?_ | refine n_block ?_ | refine n_skip ?_ | refine n_bon ?_ | refine n_bback ?_ | refine n_back ?_ | refine n_out ?_ | refine n_bout rfl ?_ | refine n_bfar rfl ?_ | refine n_ret ?_ | refine n_exit ?_ | refine n_label ?_ | refine n_scope ?_ | refine n_son ?_ | refine n_sback ?_) | (with_reducible (first | apply n_region | apply d_region); (simp only [JV, JU, JW, Nat.reduceAdd, Nat.zero_add]; exact rfl)) | (with_reducible (first | apply s_op | apply n_guard | apply n_cond | apply d_guard | apply d_op | apply n_fin | apply n_finb); (simp (maxDischargeDepth := 6) only [sy3.1, zY, qG, qP, qQ, qR, qS, qT, rowAt, ↓jg, ↓ji, Nat.reduceAdd, Nat.reduceEqDiff, ne_eq, jG, Nat.reduceLT, if_true, ite_true, Int.reduceLE, Int.reduceLT, Int.reduceEq, Int.reduceNeg, Int.reduceAdd, Nat.reduceSub, if_false, ite_false, fs_12.1, rpV, hpl, ixN, d1, decide_eq_true h1, kind_pure, kind_load, kind_fresh, kind_other, jg, ji, undef]; first | exact rfl | exact ⟨rfl, rfl, rfl, rfl⟩); try (with_reducible refine calmK_in ?_; decide +kernel)))
      exact rp_same2 ha hb _ (by simp only [all_relogL, js, ju, List.all_nil, jt, Bool.and_self])
    rw [if_neg h1]
    have d2 := decide_eq_false h1
    obtain ⟨c1, c2⟩ := sum_at h0 (k := k) (by omega)
    rcases hb with ⟨_, e⟩ | ⟨j, rfl, hj, hne, hrow⟩
    · rw [e] at hls; simp only [List.length_nil] at hls; omega
    have hb : RIn o nx (some j) sizes := .inr ⟨j, rfl, hj, hne, hrow⟩
    have hc : (sizes.map (Value.int .i64))[k]? = some (.int .i64 (sizes.getD k 0)) := by
      have := ints_at sizes [] k (by omega)
      rw [List.append_nil] at this; exact this
    have l1 : Nat.blt k sizes.length = true := by rw [Nat.blt_eq]; omega
    have n1 : decide (sizes.length ≤ k) = false := decide_eq_false (by omega)
    simp only [rpV, slA, Option.map_some] at hpl hus
    by_cases h2 : bd < size
    · rw [if_pos (.inl h2)]
      repeat (first | with_reducible (first | refine n_on ?_ | refine n_seq ?_ | refine s_else ?_ | refine n_t ?_ | refine n_gt ?_ | refine d_t ?_ | refine n_nil ?_ | refine d_nil ?_ | refine n_block ?_ | refine n_skip ?_ | refine n_bon ?_ | refine n_bback ?_ | refine n_back ?_ | refine n_out ?_ | refine n_bout rfl ?_ | refine n_bfar rfl ?_ | refine n_ret ?_ | refine n_exit ?_ | refine n_label ?_ | refine n_scope ?_ | refine n_son ?_ | refine n_sback ?_) | (with_reducible (first | apply n_region | apply d_region); (simp only [JV, JU, JW, Nat.reduceAdd, Nat.zero_add]; exact rfl)) | (with_reducible (first | apply s_op | apply n_guard | apply n_cond | apply d_guard | apply d_op | apply n_fin | apply n_finb); (simp (maxDischargeDepth := 6) only [sy3.1, zY, qG, qP, qQ, qR, qS, qT, rowAt, ↓jg, ↓ji, Nat.reduceAdd, Nat.reduceEqDiff, ne_eq, jG, Nat.reduceLT, if_true, ite_true, Int.reduceLE, Int.reduceLT, Int.reduceEq, Int.reduceNeg, Int.reduceAdd, Nat.reduceSub, if_false, ite_false, fs_12.1, rpV, slA, hpl, ixN, d1, d2, decide_eq_true h2, kind_pure, kind_load, kind_fresh, kind_other, jg, ji, undef]; first | exact rfl | exact ⟨rfl, rfl, rfl, rfl⟩); try (with_reducible refine calmK_in ?_; decide +kernel)))
      exact rp_same2 (b := some j) ha hb _ (by simp only [all_relogL, js, ju, List.all_nil, jt, Bool.and_self])
    have d3 := decide_eq_false h2
    have w1 : IntKind.i64.wrap (sumL sizes - sizes.getD k 0) = sumL sizes - sizes.getD k 0 := wrap_any (by omega) (by omega)
    have w2 : IntKind.i64.wrap (sumL sizes - sizes.getD k 0 + size) = sumL sizes - sizes.getD k 0 + size := wrap_any (by omega) (by omega)
    by_cases h3 : bd < sumL sizes - sizes.getD k 0 + size
    · rw [if_pos (.inr h3)]
      repeat (first | with_reducible (first | refine n_on ?_ | refine n_seq ?_ | refine s_else ?_ | refine n_t ?_ | refine n_gt ?_ | refine d_t ?_ | refine n_nil ?_ | refine d_nil ?_ | refine n_block ?_ | refine n_skip ?_ | refine n_bon ?_ | refine n_bback ?_ | refine n_back ?_ | refine n_out ?_ | refine n_bout rfl ?_ | refine n_bfar rfl ?_ | refine n_ret ?_ | refine n_exit ?_ | refine n_label ?_ | refine n_scope ?_ | refine n_son ?_ | refine n_sback ?_) | (with_reducible (first | apply n_region | apply d_region); (simp only [JV, JU, JW, Nat.reduceAdd, Nat.zero_add]; exact rfl)) | (with_reducible (first | apply s_op | apply n_guard | apply n_cond | apply d_guard | apply d_op | apply n_fin | apply n_finb); (simp (maxDischargeDepth := 6) only [sy3.1, zY, qG, qP, qQ, qR, qS, qT, rowAt, ↓jg, ↓ji, Nat.reduceAdd, Nat.reduceEqDiff, ne_eq, jG, Nat.reduceLT, if_true, ite_true, Int.reduceLE, Int.reduceLT, Int.reduceEq, Int.reduceNeg, Int.reduceAdd, Nat.reduceSub, if_false, ite_false, fs_12.1, rpV, slA, hpl, hus, ixN, d1, d2, d3, hj, hrow, hc, l1, n1, w1, w2, decide_eq_true h3, indexAt, Option.isNone_none, Nat.mul_one, kind_pure, kind_load, kind_fresh, kind_other, jg, ji, undef]; first | exact rfl | exact ⟨rfl, rfl, rfl, rfl⟩); try (with_reducible refine calmK_in ?_; decide +kernel)))
      exact rp_same2 (b := some j) ha hb _ (by simp only [all_relogL, js, ju, List.all_nil, jt, Bool.and_self])
    rw [if_neg (fun e => e.elim h2 h3)]
    have d4 := decide_eq_false h3
    have happ : ∀ (o : Tr AObj) (nx : Nat) (lg : List Nat) (fid : Nat), o.get j = some (.row (sizes.map (Value.int .i64)) 3 1 true) → _ := fun o nx lg fid hg => app_copy (fid := fid) hne (by omega) (add_all (nx := nx) (lg := lg) hg 0)
    have t1 : (sizes.map (Value.int .i64)).set k (.int .i64 size) = (sizes.set k size).map (Value.int .i64) := by rw [List.map_set]
    have s1 : k < (sizes.map (Value.int .i64)).length := by rw [List.length_map]; omega
    repeat (first | with_reducible (first | refine n_on ?_ | refine n_seq ?_ | refine s_else ?_ | refine n_t ?_ | refine n_gt ?_ | refine d_t ?_ | refine n_nil ?_ | refine d_nil ?_ | refine n_block ?_ | refine n_skip ?_ | refine n_bon ?_ | refine n_bback ?_ | refine n_back ?_ | refine n_out ?_ | refine n_bout rfl ?_ | refine n_bfar rfl ?_ | refine n_ret ?_ | refine n_exit ?_ | refine n_label ?_ | refine n_scope ?_ | refine n_son ?_ | refine n_sback ?_) | (with_reducible (first | apply n_region | apply d_region); (simp only [JV, JU, JW, Nat.reduceAdd, Nat.zero_add]; exact rfl)) | (with_reducible (first | apply s_op | apply n_guard | apply n_cond | apply d_guard | apply d_op | apply n_fin | apply n_finb); (simp (maxDischargeDepth := 6) only [sy3.1, zY, qG, qP, qQ, qR, qS, qT, rowAt, ↓jg, ↓ji, Nat.reduceAdd, Nat.reduceEqDiff, ne_eq, jG, Nat.reduceLT, if_true, ite_true, Int.reduceLE, Int.reduceLT, Int.reduceEq, Int.reduceNeg, Int.reduceAdd, Nat.reduceSub, if_false, ite_false, fs_12.1, rpV, slA, hpl, hus, ixN, d1, d2, d3, d4, hj, hrow, hc, l1, n1, w1, w2, happ, t1, if_pos s1, indexAt, Option.isNone_none, Nat.mul_one, kind_pure, kind_load, kind_fresh, kind_other, jg, ji, undef]; first | exact rfl | exact ⟨rfl, rfl, rfl, rfl⟩); try (with_reducible refine calmK_in ?_; decide +kernel)))
    refine ⟨_, _, a, some (nx + 36), (leave_out (by simp only [all_relogL, js, ju, List.all_nil, jt, Bool.and_self]) ?_).trans (congrArg (fun v => (v, _)) ?_), by omega, ha.keep (by omega) fun q e => ?_, .inr ⟨_, rfl, by omega, ?_, ?_⟩, fun x hx => by (repeat (first | rw [qE] | rw [qF _ _ _ _ (by omega)])), .inl rfl, .inr fun q e => by cases e; omega⟩
    · show ([_, Value.int .i64 0].all (low2 nx)) = false
      simp only [List.all_cons, List.all_nil, low2_rp, low2_int, Bool.and_true]
      show (_ && Nat.blt (nx + 36) nx) = false
      rw [blt_big (by omega), Bool.and_false]
    · simp only [rpV, List.length_set]; rfl
    · have := ha.lt e
      (repeat (first | rw [qE] | rw [qF _ _ _ _ (by omega)]))
    · intro e
      have := congrArg List.length e
      rw [List.length_set] at this
      simp only [List.length_nil] at this
      omega
    · (repeat (first | rw [qE] | rw [qF _ _ _ _ (by omega)]))
end
end Go.Proofs.Yticeabhilkceiaa
