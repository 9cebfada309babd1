/- Frame: Adjust, the frame's and the document's. -/
import Derived.Test.YteomehedmfemiaaRgAdj
set_option linter.unusedSimpArgs false
set_option linter.unusedVariables false
set_option maxRecDepth 100000
namespace Go.Proofs.Yteomehedmfemiaa
open Go.RowKit
theorem SlV.low {o o' : Tr AObj} {nx nx' : Nat} {v : Value} {l : List VV} (h : SlV o' nx' v l) (hv : lowV nx v = true) (hk : ∀ x, x < nx → o'.get x = o.get x) : SlV o nx v l := by
  rcases h with h | ⟨j, off, c, et, es, w, cells, rfl, h2, h3, h4⟩
  · exact .inl h
  · have hj : j < nx := by
      have : Nat.blt j nx = true := hv
      rwa [Nat.blt_eq] at this
    exact .inr ⟨j, off, c, et, es, w, cells, rfl, hj, by rw [← hk j hj]; exact h3, h4⟩
theorem resv_end {o o' : Tr AObj} {nx nx' : Nat} {lg m : List Nat} {v : Value} {l : List VV} (hl : m.all (fun i => Nat.ble nx i) = true) (hn : nx ≤ nx') (hold : ∀ x, x < nx → o'.get x = o.get x) (h : SlV o' nx' v l) : ResV o nx lg l (leave ⟨o, nx, lg⟩ v ⟨o', nx', m⟩) := by
  cases hlow : lowV nx v with
  | false => rw [leave_newR hl hlow]; exact ⟨v, o', nx', rfl, hn, hold, h⟩
  | true => rw [Ja hl hlow]; exact ⟨v, o, nx, rfl, Nat.le_refl _, fun _ _ => rfl, h.low hlow hold⟩
section
variable {O : Helps} {n : Nat} {o : Tr AObj} {nx : Nat} {lg : List Nat}
set_option maxHeartbeats 8000000 in
theorem fadj_ok (hO : Clear O) {lo : Nat} {v : Value} {l : List VV} (h : AccV o lo nx v l) (hl : l.length ≤ 1048576) {want : Int} (hw : want ≤ 500) : Got (oCall Try.prog [] O (n + 2) 15 [v, .int .i64 want] ⟨o, nx, lg⟩) (ResV o nx lg (adjL l want)) := by
  obtain ⟨a, c, rfl⟩ := h.sl.slice
  rw [y_fn (rs := [.tmp 4]) (hO _ (by decide)) Try.func15 rfl (by kernel_rfl) rfl rfl]
  unfold adjL
  by_cases hneg : want < 0
  · rw [if_pos hneg]
    have d1 : decide (want < 0) = true := decide_eq_true hneg
    repeat (first | with_reducible (first | refine n_on ?_ | refine n_seq ?_ | refine s_else ?_ | refine n_t ?_ | refine n_gt ?_ | refine d_t ?_ | refine n_nil ?_ | refine d_nil ?_ | refine n_block ?_ | refine n_skip ?_ | refine n_bon ?_ | refine n_bback ?_ | refine n_back ?_ | refine n_out ?_ | refine n_bout rfl ?_ | refine n_bfar rfl ?_ | refine n_ret ?_ | refine n_exit ?_ | refine n_label ?_ | refine n_scope ?_ | refine n_son ?_ | refine n_sback ?_) | (with_reducible (first | apply n_region | apply d_region); (simp only [JV, JU, JW, Nat.reduceAdd, Nat.zero_add]; exact rfl)) | (with_reducible (first | apply s_op | apply n_guard | apply n_cond | apply d_guard | apply d_op | apply n_fin | apply n_finb); (simp (maxDischargeDepth := 6) only [sy3.1, zY, qG, qP, qQ, qR, qS, qT, rowAt, ↓jg, ↓ji, Nat.reduceAdd, Nat.reduceEqDiff, ne_eq, jG, Nat.reduceLT, if_true, ite_true, Int.reduceLE, Int.reduceLT, Int.reduceEq, Int.reduceNeg, Int.reduceAdd, Nat.reduceSub, if_false, ite_false, fs_15.1, d1, kind_pure, kind_load, kind_fresh, kind_other, jg, ji, undef]; first | exact rfl | exact ⟨rfl, rfl, rfl, rfl⟩); try (with_reducible refine calmK_in ?_; decide +kernel)))
    refine s_do (ResV o (nx + 6) [] l) (by
      simp (maxDischargeDepth := 6) only [sy3.1, zY, qG, qP, qQ, qR, qS, qT, rowAt, ↓jg, ↓ji, Nat.reduceAdd, Nat.reduceEqDiff, ne_eq, jG, Nat.reduceLT, if_true, ite_true, Int.reduceLE, Int.reduceLT, Int.reduceEq, Int.reduceNeg, Int.reduceAdd, Nat.reduceSub, if_false, ite_false, fs_15.1]
      exact rclone_ok (n := n) hO (h.keep (Nat.le_refl _) (by omega) fun _ _ _ => rfl) hl) ?_
    rintro c1 H1 ⟨_, o1, nx1, heq, hn1, hk1, ha1⟩
    cases heq
    repeat (first | with_reducible (first | refine n_on ?_ | refine n_seq ?_ | refine s_else ?_ | refine n_t ?_ | refine n_gt ?_ | refine d_t ?_ | refine n_nil ?_ | refine d_nil ?_ | refine n_block ?_ | refine n_skip ?_ | refine n_bon ?_ | refine n_bback ?_ | refine n_back ?_ | refine n_out ?_ | refine n_bout rfl ?_ | refine n_bfar rfl ?_ | refine n_ret ?_ | refine n_exit ?_ | refine n_label ?_ | refine n_scope ?_ | refine n_son ?_ | refine n_sback ?_) | (with_reducible (first | apply n_region | apply d_region); (simp only [JV, JU, JW, Nat.reduceAdd, Nat.zero_add]; exact rfl)) | (with_reducible (first | apply s_op | apply n_guard | apply n_cond | apply d_guard | apply d_op | apply n_fin | apply n_finb); (simp (maxDischargeDepth := 6) only [sy3.1, zY, qG, qP, qQ, qR, qS, qT, rowAt, ↓jg, ↓ji, Nat.reduceAdd, Nat.reduceEqDiff, ne_eq, jG, Nat.reduceLT, if_true, ite_true, Int.reduceLE, Int.reduceLT, Int.reduceEq, Int.reduceNeg, Int.reduceAdd, Nat.reduceSub, if_false, ite_false, fs_15.1, d1, kind_pure, kind_load, kind_fresh, kind_other, jg, ji, undef]; first | exact rfl | exact ⟨rfl, rfl, rfl, rfl⟩); try (with_reducible refine calmK_in ?_; decide +kernel)))
    exact resv_end (by rfl) (by omega) (fun x hx => hk1 x (by omega)) ha1
  · rw [if_neg hneg]
    have d1 : decide (want < 0) = false := decide_eq_false hneg
    obtain ⟨w, rfl⟩ : ∃ w : Nat, want = Int.ofNat w := ⟨want.toNat, by simp only [Int.ofNat_eq_natCast]; omega⟩
    have hw5 : w ≤ 500 := by simp only [Int.ofNat_eq_natCast] at hw; omega
    have hmk := make_V hw5
    repeat (first | with_reducible (first | refine n_on ?_ | refine n_seq ?_ | refine s_else ?_ | refine n_t ?_ | refine n_gt ?_ | refine d_t ?_ | refine n_nil ?_ | refine d_nil ?_ | refine n_block ?_ | refine n_skip ?_ | refine n_bon ?_ | refine n_bback ?_ | refine n_back ?_ | refine n_out ?_ | refine n_bout rfl ?_ | refine n_bfar rfl ?_ | refine n_ret ?_ | refine n_exit ?_ | refine n_label ?_ | refine n_scope ?_ | refine n_son ?_ | refine n_sback ?_) | (with_reducible (first | apply n_region | apply d_region); (simp only [JV, JU, JW, Nat.reduceAdd, Nat.zero_add]; exact rfl)) | (with_reducible (first | apply s_op | apply n_guard | apply n_cond | apply d_guard | apply d_op | apply n_fin | apply n_finb); (simp (maxDischargeDepth := 6) only [sy3.1, zY, qG, qP, qQ, qR, qS, qT, rowAt, ↓jg, ↓ji, Nat.reduceAdd, Nat.reduceEqDiff, ne_eq, jG, Nat.reduceLT, if_true, ite_true, Int.reduceLE, Int.reduceLT, Int.reduceEq, Int.reduceNeg, Int.reduceAdd, Nat.reduceSub, if_false, ite_false, fs_15.1, d1, st_makeSlice, hmk, kind_pure, kind_load, kind_fresh, kind_other, jg, ji, undef]; first | exact rfl | exact ⟨rfl, rfl, rfl, rfl⟩); try (with_reducible refine calmK_in ?_; decide +kernel)))
    refine s_do (fun r => ∃ m o2 l2, r = (m, ⟨o2, nx + 9, l2⟩) ∧ (∀ x, o2.get x = if x = nx + 4 then some (.row (vvC (l.take w ++ List.replicate (w - l.length) (0, 0))) 41 2 true) else o.get x) ∧ l2.all (fun i => Nat.ble nx i) = true) (by
      simp (maxDischargeDepth := 6) only [sy3.1, zY, qG, qP, qQ, qR, qS, qT, rowAt, ↓jg, ↓ji, Nat.reduceAdd, Nat.reduceEqDiff, ne_eq, jG, Nat.reduceLT, if_true, ite_true, Int.reduceLE, Int.reduceLT, Int.reduceEq, Int.reduceNeg, Int.reduceAdd, Nat.reduceSub, if_false, ite_false, fs_15.1, st_copy]
      have hA : AccV (o.put (nx + 4) (some (.row (vvC (List.replicate w (0, 0))) 41 2 true))) lo nx (.slice a l.length c) l := h.keep (Nat.le_refl _) (Nat.le_refl _) fun x _ hx => by (repeat (first | rw [qE] | rw [qF _ _ _ _ (by omega)]))
      obtain ⟨⟨o2, nx2, l2⟩, m, g1, g2, g3, g4⟩ := copy_V (H := ⟨o.put (nx + 4) (some (.row (vvC (List.replicate w (0, 0))) 41 2 true)), nx + 9, []⟩) (b := nx) (lo := lo) (j := nx + 4) hw5 (by rw [qH]; (repeat (first | rw [qE] | rw [qF _ _ _ _ (by omega)]))) hA (by omega) rfl
      have g3 : nx2 = nx + 9 := g3
      subst g3
      refine ⟨_, g1, _, _, _, rfl, fun x => ?_, g4⟩
      refine (g2 x).trans ?_
      by_cases hx : x = nx + 4
      · rw [if_pos hx, if_pos hx]
      · rw [if_neg hx, if_neg hx]; exact qF _ _ _ _ (by omega)) ?_
    rintro m H1 ⟨_, o2, l2, heq, hg, hlg⟩
    cases heq
    have hg4 : o2.get (nx + 4) = some (.row (vvC (l.take w ++ List.replicate (w - l.length) (0, 0))) 41 2 true) := by rw [hg, if_pos rfl]
    repeat (first | with_reducible (first | refine n_on ?_ | refine n_seq ?_ | refine s_else ?_ | refine n_t ?_ | refine n_gt ?_ | refine d_t ?_ | refine n_nil ?_ | refine d_nil ?_ | refine n_block ?_ | refine n_skip ?_ | refine n_bon ?_ | refine n_bback ?_ | refine n_back ?_ | refine n_out ?_ | refine n_bout rfl ?_ | refine n_bfar rfl ?_ | refine n_ret ?_ | refine n_exit ?_ | refine n_label ?_ | refine n_scope ?_ | refine n_son ?_ | refine n_sback ?_) | (with_reducible (first | apply n_region | apply d_region); (simp only [JV, JU, JW, Nat.reduceAdd, Nat.zero_add]; exact rfl)) | (with_reducible (first | apply s_op | apply n_guard | apply n_cond | apply d_guard | apply d_op | apply n_fin | apply n_finb); (simp (maxDischargeDepth := 6) only [sy3.1, zY, qG, qP, qQ, qR, qS, qT, rowAt, ↓jg, ↓ji, Nat.reduceAdd, Nat.reduceEqDiff, ne_eq, jG, Nat.reduceLT, if_true, ite_true, Int.reduceLE, Int.reduceLT, Int.reduceEq, Int.reduceNeg, Int.reduceAdd, Nat.reduceSub, if_false, ite_false, fs_15.1, d1, kind_pure, kind_load, kind_fresh, kind_other, jg, ji, undef]; first | exact rfl | exact ⟨rfl, rfl, rfl, rfl⟩); try (with_reducible refine calmK_in ?_; decide +kernel)))
    have hlen : (l.take w ++ List.replicate (w - l.length) (0, 0)).length = w := by rw [List.length_append, List.length_take, List.length_replicate]; omega
    refine resv_end (by simp only [all_relogL, js, ju, List.all_nil, jt, Bool.and_self, Bool.true_and, Bool.and_true, hlg]) (by omega) (fun x hx => by rw [hg, if_neg (by omega)]) (.inr ⟨nx + 4, 0, w + 1, _, _, _, _, ?_, by omega, hg4, ?_⟩)
    · rw [show (Int.ofNat w).toNat = w from rfl, hlen]
    · rw [show (Int.ofNat w).toNat = w from rfl]; exact vvC_cut _
end
end Go.Proofs.Yteomehedmfemiaa
