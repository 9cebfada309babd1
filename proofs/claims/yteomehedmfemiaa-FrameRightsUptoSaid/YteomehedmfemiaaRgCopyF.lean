/- Frame: a frame copied (CopyFrame). -/
import Derived.Test.YteomehedmfemiaaRgSameF
import Derived.Test.YteomehedmfemiaaRgCopyV
import Derived.Test.YteomehedmfemiaaRgCopyT
import Derived.Test.YteomehedmfemiaaRgDraw
set_option linter.unusedSimpArgs false
set_option linter.unusedVariables false
set_option maxRecDepth 100000
namespace Go.Proofs.Yteomehedmfemiaa
open Go.RowKit
theorem cut_twelve (a b c d e f g h i j k l : Value) : cut [a, b, c, d, e, f, g, h, i, j, k, l] 0 12 = some [a, b, c, d, e, f, g, h, i, j, k, l] := rfl
/-- a frame in memory of its own -/
def NewF (o : Tr AObj) (nx : Nat) (lg : List Nat) (en pr cl st pc wa : Int) (wt : Bool) (ls ld lv lr : List VV) (lw : List TT) (q : Value × AHeap) : Prop :=
  ∃ s d w v r o' nx', q = (fV en pr cl st s d w v pc r wt wa, ⟨o', nx', lg⟩) ∧ nx ≤ nx' ∧ (∀ x, x < nx → o'.get x = o.get x) ∧ AccV o' nx nx' s ls ∧ AccV o' nx nx' d ld ∧ AccT o' nx nx' w lw ∧ AccV o' nx nx' v lv ∧ AccV o' nx nx' r lr
theorem newV_class {P : Program} {ρ : Operand → Value} {fid nx nx' : Nat} {ob o : Tr AObj} {lg : List Nat} {c : Call} {l : List VV} {f : Operand} (hc : c.callee = .value f) : ∀ r, NewV o nx' [] l r → ∃ q, zY ρ fid ⟨ob, nx, lg⟩ r.2 (.call c) = .other q [] := by
  rintro r ⟨v, o', n', rfl, _⟩
  obtain ⟨ca, xs, ts⟩ := c
  cases hc
  exact ⟨_, rfl⟩
theorem newT_class {P : Program} {ρ : Operand → Value} {fid nx nx' : Nat} {ob o : Tr AObj} {lg : List Nat} {c : Call} {l : List TT} {f : Operand} (hc : c.callee = .value f) : ∀ r, NewT o nx' [] l r → ∃ q, zY ρ fid ⟨ob, nx, lg⟩ r.2 (.call c) = .other q [] := by
  rintro r ⟨v, o', n', rfl, _⟩
  obtain ⟨ca, xs, ts⟩ := c
  cases hc
  exact ⟨_, rfl⟩
theorem newf_end {o o' : Tr AObj} {nx nx' : Nat} {lg l : List Nat} {en pr cl st pc wa : Int} {wt : Bool} {s d w v r : Value} {ls ld lv lr : List VV} {lw : List TT} (hl : l.all (fun i => Nat.ble nx i) = true) (hn : nx ≤ nx') (hold : ∀ x, x < nx → o'.get x = o.get x)
    (hs : AccV o' nx nx' s ls) (hd : AccV o' nx nx' d ld) (hw : AccT o' nx nx' w lw) (hv : AccV o' nx nx' v lv) (hr : AccV o' nx nx' r lr) : NewF o nx lg en pr cl st pc wa wt ls ld lv lr lw (leave ⟨o, nx, lg⟩ (fV en pr cl st s d w v pc r wt wa) ⟨o', nx', l⟩) := by
  cases hlow : lowV nx (fV en pr cl st s d w v pc r wt wa) with
  | false =>
    rw [leave_newR hl hlow]
    exact ⟨s, d, w, v, r, o', nx', rfl, hn, hold, hs, hd, hw, hv, hr⟩
  | true =>
    rw [Ja hl hlow]
    have h2 : (low1 nx s && (low1 nx d && (low1 nx w && (low1 nx v && low1 nx r)))) = true := by
      have h3 : ([Value.int .u8 en, .int .i64 pr, .int .i64 cl, .int .i64 st, s, d, w, v, .int .i64 pc, r, .bool wt, .int .i64 wa].all (low1 nx)) = true := hlow
      simp only [List.all_cons, List.all_nil, Bool.and_true, Bool.and_eq_true] at h3 ⊢
      obtain ⟨_, _, _, _, h1, h2, h3, h4, _, h5, _⟩ := h3
      exact ⟨h1, h2, h3, h4, h5⟩
    simp only [Bool.and_eq_true] at h2
    obtain ⟨h1, h2, h3, h4, h5⟩ := h2
    exact ⟨s, d, w, v, r, o, nx, rfl, Nat.le_refl _, fun _ _ => rfl, .inl (hs.low (Nat.le_refl _) h1), .inl (hd.low (Nat.le_refl _) h2), .inl (hw.low (Nat.le_refl _) h3), .inl (hv.low (Nat.le_refl _) h4), .inl (hr.low (Nat.le_refl _) h5)⟩
section
variable {O : Helps} {n : Nat} {o : Tr AObj} {nx : Nat} {lg : List Nat}
set_option maxHeartbeats 16000000 in
theorem copyf_ok (hO : Clear O) {en pr cl st pc wa : Int} {wt : Bool} {s d w v r : Value} {ls ld lv lr : List VV} {lw : List TT}
    (hs : SlV o nx s ls) (hd : SlV o nx d ld) (hw : SlT o nx w lw) (hv : SlV o nx v lv) (hr : SlV o nx r lr)
    (bs : ls.length ≤ 1048576) (bd : ld.length ≤ 1048576) (bw : lw.length ≤ 1048576) (bv : lv.length ≤ 1048576) (br : lr.length ≤ 1048576) :
    Got (oCall Try.prog [] O (n + 2000001) 5 [fV en pr cl st s d w v pc r wt wa] ⟨o, nx, lg⟩) (NewF o nx lg en pr cl st pc wa wt ls ld lv lr lw) := by
  rw [y_fn (rs := [.cell 2 29]) (hO _ (by decide)) Try.func5 rfl (by kernel_rfl) rfl rfl]
  refine y_cut (I := fun e H => ∃ o2 nx2, H = (⟨o2, nx2, []⟩ : AHeap) ∧ nx + 2 ≤ nx2 ∧ (∀ x, x < nx → o2.get x = o.get x) ∧ o2.get nx = some (.row (fC en pr cl st s d w v pc r wt wa) 29 0 true) ∧ o2.get (nx + 1) = some (.row (fC 0 0 0 0 (.slice none 0 0) (.slice none 0 0) (.slice none 0 0) (.slice none 0 0) 0 (.slice none 0 0) false 0) 29 0 true) ∧ e.get 1 = some (.pointer (some ⟨nx, 0, none⟩)) ∧ e.get 2 = some (.pointer (some ⟨nx + 1, 0, none⟩))) ?_ ?_
  · repeat (first | with_reducible (first | refine n_on ?_ | refine n_seq ?_ | refine s_else ?_ | refine n_t ?_ | refine n_gt ?_ | refine d_t ?_ | refine n_nil ?_ | refine d_nil ?_ | refine n_block ?_ | refine n_skip ?_ | refine n_bon ?_ | refine n_bback ?_ | refine n_back ?_ | refine n_out ?_ | refine n_bout rfl ?_ | refine n_bfar rfl ?_ | refine n_ret ?_ | refine n_exit ?_ | refine n_label ?_ | refine n_scope ?_ | refine n_son ?_ | refine n_sback ?_) | (with_reducible (first | apply n_region | apply d_region); (simp only [JV, JU, JW, Nat.reduceAdd, Nat.zero_add]; exact rfl)) | (with_reducible (first | apply s_op | apply n_guard | apply n_cond | apply d_guard | apply d_op | apply n_fin | apply n_finb); (simp (maxDischargeDepth := 6) only [sy3.1, zY, qG, qP, qQ, qR, qS, qT, rowAt, ↓jg, ↓ji, Nat.reduceAdd, Nat.reduceEqDiff, ne_eq, jG, Nat.reduceLT, if_true, ite_true, Int.reduceLE, Int.reduceLT, Int.reduceEq, Int.reduceNeg, Int.reduceAdd, Nat.reduceSub, if_false, ite_false, fs_5.1, bs, kind_pure, kind_load, kind_fresh, kind_other, jg, ji, undef]; first | exact rfl | exact ⟨rfl, rfl, rfl, rfl⟩); try (with_reducible refine calmK_in ?_; decide +kernel)))
    refine ⟨_, _, rfl, _, _, rfl, by omega, ?_, ?_, ?_, ?_, ?_⟩
    · intro x hx; (repeat (first | rw [qE] | rw [qF _ _ _ _ (by omega)]))
    · (repeat (first | rw [qE] | rw [qF _ _ _ _ (by omega)]))
    · (repeat (first | rw [qE] | rw [qF _ _ _ _ (by omega)]))
    · simp only [qG, qC, qD, qE, qF, Tr.get_nil, ne_eq, not_false_eq_true, Nat.reduceEqDiff]
    · simp only [qG, qC, qD, qE, qF, Tr.get_nil, ne_eq, not_false_eq_true, Nat.reduceEqDiff]
  · rintro e H ⟨o2, nx2, rfl, hn2, hold, g0, g1, e1, e2⟩
    have m0 : nx < nx2 := by omega
    have m1 : nx + 1 < nx2 := by omega
    repeat (first | with_reducible (first | refine n_on ?_ | refine n_seq ?_ | refine s_else ?_ | refine n_t ?_ | refine n_gt ?_ | refine d_t ?_ | refine n_nil ?_ | refine d_nil ?_ | refine n_block ?_ | refine n_skip ?_ | refine n_bon ?_ | refine n_bback ?_ | refine n_back ?_ | refine n_out ?_ | refine n_bout rfl ?_ | refine n_bfar rfl ?_ | refine n_ret ?_ | refine n_exit ?_ | refine n_label ?_ | refine n_scope ?_ | refine n_son ?_ | refine n_sback ?_) | (with_reducible (first | apply n_region | apply d_region); (simp only [JV, JU, JW, Nat.reduceAdd, Nat.zero_add]; exact rfl)) | (with_reducible (first | apply s_op | apply n_guard | apply n_cond | apply d_guard | apply d_op | apply n_fin | apply n_finb); (simp (maxDischargeDepth := 6) only [sy3.1, zY, qG, qP, qQ, qR, qS, qT, rowAt, ↓jg, ↓ji, Nat.reduceAdd, Nat.reduceEqDiff, ne_eq, jG, Nat.reduceLT, if_true, ite_true, Int.reduceLE, Int.reduceLT, Int.reduceEq, Int.reduceNeg, Int.reduceAdd, Nat.reduceSub, if_false, ite_false, fs_5.1, g0, e1, e2, m0, m1, kind_pure, kind_load, kind_fresh, kind_other, jg, ji, undef]; first | exact rfl | exact ⟨rfl, rfl, rfl, rfl⟩); try (with_reducible refine calmK_in ?_; decide +kernel)))
    refine d_new (NewV o2 (nx2 + 25) [] ls) (by
      simp (maxDischargeDepth := 6) only [sy3.1, zY, qG, qP, qQ, qR, qS, qT, rowAt, ↓jg, ↓ji, Nat.reduceAdd, Nat.reduceEqDiff, ne_eq, jG, Nat.reduceLT, if_true, ite_true, Int.reduceLE, Int.reduceLT, Int.reduceEq, Int.reduceNeg, Int.reduceAdd, Nat.reduceSub, if_false, ite_false, fs_5.1]
      exact copyV_ok (n := n) hO (hs.keep (by omega) hold) bs) (newV_class (P := Try.prog) rfl) (by decide +kernel) ?_
    rintro c3 o3 nx3 l3 ⟨_, _, _, heq, hn3, hk3, ha3⟩
    cases heq
    obtain ⟨p3, c3, rfl⟩ := ha3.sl.slice
    have hold3 : ∀ x, x < nx → o3.get x = o.get x := fun x hx => (hk3 x (by omega)).trans (hold x hx)
    have ga3 : o3.get nx = some (.row (fC en pr cl st s d w v pc r wt wa) 29 0 true) := (hk3 nx (by omega)).trans g0
    have gb3 : o3.get (nx + 1) = some (.row (fC 0 0 0 0 (.slice none 0 0) (.slice none 0 0) (.slice none 0 0) (.slice none 0 0) 0 (.slice none 0 0) false 0) 29 0 true) := (hk3 (nx + 1) (by omega)).trans g1
    have m3 : nx < nx3 := by omega
    have mm3 : nx + 1 < nx3 := by omega
    repeat (first | with_reducible (first | refine n_on ?_ | refine n_seq ?_ | refine s_else ?_ | refine n_t ?_ | refine n_gt ?_ | refine d_t ?_ | refine n_nil ?_ | refine d_nil ?_ | refine n_block ?_ | refine n_skip ?_ | refine n_bon ?_ | refine n_bback ?_ | refine n_back ?_ | refine n_out ?_ | refine n_bout rfl ?_ | refine n_bfar rfl ?_ | refine n_ret ?_ | refine n_exit ?_ | refine n_label ?_ | refine n_scope ?_ | refine n_son ?_ | refine n_sback ?_) | (with_reducible (first | apply n_region | apply d_region); (simp only [JV, JU, JW, Nat.reduceAdd, Nat.zero_add]; exact rfl)) | (with_reducible (first | apply s_op | apply n_guard | apply n_cond | apply d_guard | apply d_op | apply n_fin | apply n_finb); (simp (maxDischargeDepth := 6) only [sy3.1, zY, qG, qP, qQ, qR, qS, qT, rowAt, ↓jg, ↓ji, Nat.reduceAdd, Nat.reduceEqDiff, ne_eq, jG, Nat.reduceLT, if_true, ite_true, Int.reduceLE, Int.reduceLT, Int.reduceEq, Int.reduceNeg, Int.reduceAdd, Nat.reduceSub, if_false, ite_false, fs_5.1, ga3, e1, e2, m3, kind_pure, kind_load, kind_fresh, kind_other, jg, ji, undef]; first | exact rfl | exact ⟨rfl, rfl, rfl, rfl⟩); try (with_reducible refine calmK_in ?_; decide +kernel)))
    refine d_new (NewV o3 (nx3) [] ld) (by
      simp (maxDischargeDepth := 6) only [sy3.1, zY, qG, qP, qQ, qR, qS, qT, rowAt, ↓jg, ↓ji, Nat.reduceAdd, Nat.reduceEqDiff, ne_eq, jG, Nat.reduceLT, if_true, ite_true, Int.reduceLE, Int.reduceLT, Int.reduceEq, Int.reduceNeg, Int.reduceAdd, Nat.reduceSub, if_false, ite_false, fs_5.1]
      exact copyV_ok (n := n) hO (hd.keep (by omega) hold3) bd) (newV_class (P := Try.prog) rfl) (by decide +kernel) ?_
    rintro c4 o4 nx4 l4 ⟨_, _, _, heq, hn4, hk4, ha4⟩
    cases heq
    obtain ⟨p4, c4, rfl⟩ := ha4.sl.slice
    have hold4 : ∀ x, x < nx → o4.get x = o.get x := fun x hx => (hk4 x (by omega)).trans (hold3 x hx)
    have ga4 : o4.get nx = some (.row (fC en pr cl st s d w v pc r wt wa) 29 0 true) := (hk4 nx (by omega)).trans ga3
    have gb4 : o4.get (nx + 1) = some (.row (fC 0 0 0 0 (.slice none 0 0) (.slice none 0 0) (.slice none 0 0) (.slice none 0 0) 0 (.slice none 0 0) false 0) 29 0 true) := (hk4 (nx + 1) (by omega)).trans gb3
    have m4 : nx < nx4 := by omega
    have mm4 : nx + 1 < nx4 := by omega
    repeat (first | with_reducible (first | refine n_on ?_ | refine n_seq ?_ | refine s_else ?_ | refine n_t ?_ | refine n_gt ?_ | refine d_t ?_ | refine n_nil ?_ | refine d_nil ?_ | refine n_block ?_ | refine n_skip ?_ | refine n_bon ?_ | refine n_bback ?_ | refine n_back ?_ | refine n_out ?_ | refine n_bout rfl ?_ | refine n_bfar rfl ?_ | refine n_ret ?_ | refine n_exit ?_ | refine n_label ?_ | refine n_scope ?_ | refine n_son ?_ | refine n_sback ?_) | (with_reducible (first | apply n_region | apply d_region); (simp only [JV, JU, JW, Nat.reduceAdd, Nat.zero_add]; exact rfl)) | (with_reducible (first | apply s_op | apply n_guard | apply n_cond | apply d_guard | apply d_op | apply n_fin | apply n_finb); (simp (maxDischargeDepth := 6) only [sy3.1, zY, qG, qP, qQ, qR, qS, qT, rowAt, ↓jg, ↓ji, Nat.reduceAdd, Nat.reduceEqDiff, ne_eq, jG, Nat.reduceLT, if_true, ite_true, Int.reduceLE, Int.reduceLT, Int.reduceEq, Int.reduceNeg, Int.reduceAdd, Nat.reduceSub, if_false, ite_false, fs_5.1, ga4, e1, e2, m4, kind_pure, kind_load, kind_fresh, kind_other, jg, ji, undef]; first | exact rfl | exact ⟨rfl, rfl, rfl, rfl⟩); try (with_reducible refine calmK_in ?_; decide +kernel)))
    refine d_new (NewT o4 (nx4) [] lw) (by
      simp (maxDischargeDepth := 6) only [sy3.1, zY, qG, qP, qQ, qR, qS, qT, rowAt, ↓jg, ↓ji, Nat.reduceAdd, Nat.reduceEqDiff, ne_eq, jG, Nat.reduceLT, if_true, ite_true, Int.reduceLE, Int.reduceLT, Int.reduceEq, Int.reduceNeg, Int.reduceAdd, Nat.reduceSub, if_false, ite_false, fs_5.1]
      exact copyT_ok (n := n) hO (hw.keep (by omega) hold4) bw) (newT_class (P := Try.prog) rfl) (by decide +kernel) ?_
    rintro c5 o5 nx5 l5 ⟨_, _, _, heq, hn5, hk5, ha5⟩
    cases heq
    obtain ⟨p5, c5, rfl⟩ := ha5.sl.slice
    have hold5 : ∀ x, x < nx → o5.get x = o.get x := fun x hx => (hk5 x (by omega)).trans (hold4 x hx)
    have ga5 : o5.get nx = some (.row (fC en pr cl st s d w v pc r wt wa) 29 0 true) := (hk5 nx (by omega)).trans ga4
    have gb5 : o5.get (nx + 1) = some (.row (fC 0 0 0 0 (.slice none 0 0) (.slice none 0 0) (.slice none 0 0) (.slice none 0 0) 0 (.slice none 0 0) false 0) 29 0 true) := (hk5 (nx + 1) (by omega)).trans gb4
    have m5 : nx < nx5 := by omega
    have mm5 : nx + 1 < nx5 := by omega
    repeat (first | with_reducible (first | refine n_on ?_ | refine n_seq ?_ | refine s_else ?_ | refine n_t ?_ | refine n_gt ?_ | refine d_t ?_ | refine n_nil ?_ | refine d_nil ?_ | refine n_block ?_ | refine n_skip ?_ | refine n_bon ?_ | refine n_bback ?_ | refine n_back ?_ | refine n_out ?_ | refine n_bout rfl ?_ | refine n_bfar rfl ?_ | refine n_ret ?_ | refine n_exit ?_ | refine n_label ?_ | refine n_scope ?_ | refine n_son ?_ | refine n_sback ?_) | (with_reducible (first | apply n_region | apply d_region); (simp only [JV, JU, JW, Nat.reduceAdd, Nat.zero_add]; exact rfl)) | (with_reducible (first | apply s_op | apply n_guard | apply n_cond | apply d_guard | apply d_op | apply n_fin | apply n_finb); (simp (maxDischargeDepth := 6) only [sy3.1, zY, qG, qP, qQ, qR, qS, qT, rowAt, ↓jg, ↓ji, Nat.reduceAdd, Nat.reduceEqDiff, ne_eq, jG, Nat.reduceLT, if_true, ite_true, Int.reduceLE, Int.reduceLT, Int.reduceEq, Int.reduceNeg, Int.reduceAdd, Nat.reduceSub, if_false, ite_false, fs_5.1, ga5, e1, e2, m5, kind_pure, kind_load, kind_fresh, kind_other, jg, ji, undef]; first | exact rfl | exact ⟨rfl, rfl, rfl, rfl⟩); try (with_reducible refine calmK_in ?_; decide +kernel)))
    refine d_new (NewV o5 (nx5) [] lv) (by
      simp (maxDischargeDepth := 6) only [sy3.1, zY, qG, qP, qQ, qR, qS, qT, rowAt, ↓jg, ↓ji, Nat.reduceAdd, Nat.reduceEqDiff, ne_eq, jG, Nat.reduceLT, if_true, ite_true, Int.reduceLE, Int.reduceLT, Int.reduceEq, Int.reduceNeg, Int.reduceAdd, Nat.reduceSub, if_false, ite_false, fs_5.1]
      exact copyV_ok (n := n) hO (hv.keep (by omega) hold5) bv) (newV_class (P := Try.prog) rfl) (by decide +kernel) ?_
    rintro c6 o6 nx6 l6 ⟨_, _, _, heq, hn6, hk6, ha6⟩
    cases heq
    obtain ⟨p6, c6, rfl⟩ := ha6.sl.slice
    have hold6 : ∀ x, x < nx → o6.get x = o.get x := fun x hx => (hk6 x (by omega)).trans (hold5 x hx)
    have ga6 : o6.get nx = some (.row (fC en pr cl st s d w v pc r wt wa) 29 0 true) := (hk6 nx (by omega)).trans ga5
    have gb6 : o6.get (nx + 1) = some (.row (fC 0 0 0 0 (.slice none 0 0) (.slice none 0 0) (.slice none 0 0) (.slice none 0 0) 0 (.slice none 0 0) false 0) 29 0 true) := (hk6 (nx + 1) (by omega)).trans gb5
    have m6 : nx < nx6 := by omega
    have mm6 : nx + 1 < nx6 := by omega
    repeat (first | with_reducible (first | refine n_on ?_ | refine n_seq ?_ | refine s_else ?_ | refine n_t ?_ | refine n_gt ?_ | refine d_t ?_ | refine n_nil ?_ | refine d_nil ?_ | refine n_block ?_ | refine n_skip ?_ | refine n_bon ?_ | refine n_bback ?_ | refine n_back ?_ | refine n_out ?_ | refine n_bout rfl ?_ | refine n_bfar rfl ?_ | refine n_ret ?_ | refine n_exit ?_ | refine n_label ?_ | refine n_scope ?_ | refine n_son ?_ | refine n_sback ?_) | (with_reducible (first | apply n_region | apply d_region); (simp only [JV, JU, JW, Nat.reduceAdd, Nat.zero_add]; exact rfl)) | (with_reducible (first | apply s_op | apply n_guard | apply n_cond | apply d_guard | apply d_op | apply n_fin | apply n_finb); (simp (maxDischargeDepth := 6) only [sy3.1, zY, qG, qP, qQ, qR, qS, qT, rowAt, ↓jg, ↓ji, Nat.reduceAdd, Nat.reduceEqDiff, ne_eq, jG, Nat.reduceLT, if_true, ite_true, Int.reduceLE, Int.reduceLT, Int.reduceEq, Int.reduceNeg, Int.reduceAdd, Nat.reduceSub, if_false, ite_false, fs_5.1, ga6, e1, e2, m6, kind_pure, kind_load, kind_fresh, kind_other, jg, ji, undef]; first | exact rfl | exact ⟨rfl, rfl, rfl, rfl⟩); try (with_reducible refine calmK_in ?_; decide +kernel)))
    refine d_new (NewV o6 (nx6) [] lr) (by
      simp (maxDischargeDepth := 6) only [sy3.1, zY, qG, qP, qQ, qR, qS, qT, rowAt, ↓jg, ↓ji, Nat.reduceAdd, Nat.reduceEqDiff, ne_eq, jG, Nat.reduceLT, if_true, ite_true, Int.reduceLE, Int.reduceLT, Int.reduceEq, Int.reduceNeg, Int.reduceAdd, Nat.reduceSub, if_false, ite_false, fs_5.1]
      exact copyV_ok (n := n) hO (hr.keep (by omega) hold6) br) (newV_class (P := Try.prog) rfl) (by decide +kernel) ?_
    rintro c7 o7 nx7 l7 ⟨_, _, _, heq, hn7, hk7, ha7⟩
    cases heq
    obtain ⟨p7, c7, rfl⟩ := ha7.sl.slice
    have hold7 : ∀ x, x < nx → o7.get x = o.get x := fun x hx => (hk7 x (by omega)).trans (hold6 x hx)
    have ga7 : o7.get nx = some (.row (fC en pr cl st s d w v pc r wt wa) 29 0 true) := (hk7 nx (by omega)).trans ga6
    have gb7 : o7.get (nx + 1) = some (.row (fC 0 0 0 0 (.slice none 0 0) (.slice none 0 0) (.slice none 0 0) (.slice none 0 0) 0 (.slice none 0 0) false 0) 29 0 true) := (hk7 (nx + 1) (by omega)).trans gb6
    have m7 : nx < nx7 := by omega
    have mm7 : nx + 1 < nx7 := by omega
    repeat (first | with_reducible (first | refine n_on ?_ | refine n_seq ?_ | refine s_else ?_ | refine n_t ?_ | refine n_gt ?_ | refine d_t ?_ | refine n_nil ?_ | refine d_nil ?_ | refine n_block ?_ | refine n_skip ?_ | refine n_bon ?_ | refine n_bback ?_ | refine n_back ?_ | refine n_out ?_ | refine n_bout rfl ?_ | refine n_bfar rfl ?_ | refine n_ret ?_ | refine n_exit ?_ | refine n_label ?_ | refine n_scope ?_ | refine n_son ?_ | refine n_sback ?_) | (with_reducible (first | apply n_region | apply d_region); (simp only [JV, JU, JW, Nat.reduceAdd, Nat.zero_add]; exact rfl)) | (with_reducible (first | apply s_op | apply n_guard | apply n_cond | apply d_guard | apply d_op | apply n_fin | apply n_finb); (simp (maxDischargeDepth := 6) only [sy3.1, zY, qG, qP, qQ, qR, qS, qT, rowAt, ↓jg, ↓ji, Nat.reduceAdd, Nat.reduceEqDiff, ne_eq, jG, Nat.reduceLT, if_true, ite_true, Int.reduceLE, Int.reduceLT, Int.reduceEq, Int.reduceNeg, Int.reduceAdd, Nat.reduceSub, if_false, ite_false, fs_5.1, ga7, gb7, e1, e2, m7, mm7, cut_twelve, kind_pure, kind_load, kind_fresh, kind_other, jg, ji, undef]; first | exact rfl | exact ⟨rfl, rfl, rfl, rfl⟩); try (with_reducible refine calmK_in ?_; decide +kernel)))
    have k36 : ∀ x, x < nx3 → o7.get x = o3.get x := fun x hx => (hk7 x (by omega)).trans ((hk6 x (by omega)).trans ((hk5 x (by omega)).trans (hk4 x (by omega))))
    have k46 : ∀ x, x < nx4 → o7.get x = o4.get x := fun x hx => (hk7 x (by omega)).trans ((hk6 x (by omega)).trans (hk5 x (by omega)))
    have k56 : ∀ x, x < nx5 → o7.get x = o5.get x := fun x hx => (hk7 x (by omega)).trans (hk6 x (by omega))
    have k66 : ∀ x, x < nx6 → o7.get x = o6.get x := fun x hx => hk7 x (by omega)
    refine newf_end (by simp only [all_relogL, js, ju, List.all_nil, jt, Bool.and_self, Bool.true_and, Bool.and_true]) (by omega) (fun x hx => by (repeat (first | rw [qE] | rw [qF _ _ _ _ (by omega)])); exact hold7 x hx) (ha3.keep (by omega) (by omega) fun x h1 h2 => ?_) (ha4.keep (by omega) (by omega) fun x h1 h2 => ?_) (ha5.keep (by omega) (by omega) fun x h1 h2 => ?_) (ha6.keep (by omega) (by omega) fun x h1 h2 => ?_) (ha7.keep (by omega) (by omega) fun x h1 h2 => ?_)
    · (repeat (first | rw [qE] | rw [qF _ _ _ _ (by omega)])); exact k36 x h2
    · (repeat (first | rw [qE] | rw [qF _ _ _ _ (by omega)])); exact k46 x h2
    · (repeat (first | rw [qE] | rw [qF _ _ _ _ (by omega)])); exact k56 x h2
    · (repeat (first | rw [qE] | rw [qF _ _ _ _ (by omega)])); exact k66 x h2
    · (repeat (first | rw [qE] | rw [qF _ _ _ _ (by omega)]))
end
end Go.Proofs.Yteomehedmfemiaa
