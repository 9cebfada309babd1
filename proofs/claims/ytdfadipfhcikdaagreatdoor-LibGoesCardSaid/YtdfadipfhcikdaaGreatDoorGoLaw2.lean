/- LibGoes: the table is filled: the loop. -/
import Derived.Test.YtdfadipfhcikdaaGreatDoorGoLaw1
namespace Go.Proofs.YtdfadipfhcikdaaGreatDoor
open Go.RowKit
set_option linter.unusedSimpArgs false
set_option linter.unusedVariables false
set_option maxRecDepth 100000

theorem GoE.of {len : Nat} {oa : Option Addr} {bi b5 : Nat} {ks : List Nat} {a7 : Option Nat} {rw : Nat} {wh : Bool} {i i' : Nat} {e e' : Tr Value} (h : GoE len oa bi b5 ks a7 rw wh i e) (h0 : e'.get 0 = e.get 0) (h3 : e'.get 3 = e.get 3) (h5 : e'.get 5 = e.get 5) (h7 : e'.get 7 = e.get 7) (h8 : e'.get 8 = e.get 8) (h9 : e'.get 9 = e.get 9) (h10 : e'.get 10 = some (.int .i64 (.ofNat i'))) : GoE len oa bi b5 ks a7 rw wh i' e' :=
  ⟨h0.trans h.g0, h3.trans h.g3, h5.trans h.g5, h7.trans h.g7, h8.trans h.g8, h9.trans h.g9, h10⟩
section
variable {O : Helps} {n : Nat}
set_option maxHeartbeats 64000000 in
theorem go_loop1 (hO : Clear O) {bs : List Bool} {oa : Option Addr} {bi b5 : Nat} {e : Tr Value} {H : AHeap} (h : GoSt bs oa bi b5 0 0 e H) (hoa : oa = some ⟨0, 0, none⟩ ∨ bs = []) :
    Got (rCode Tryz.prog (oCall Tryz.prog [] O 9999) 9999 (blkIn (sqR (sqL (goW Tryz.f3)))) e H) fun s => ∃ e' H', s = (.out 0, e', H') ∧ GoSt bs oa bi b5 (min bs.length 20) (min bs.length 20) e' H' := by
  show Got (rCode _ _ _ (Code.loop (goL1 Tryz.f3)) _ _) _
  rw [y_loop_eq]
  refine y_loop (I := fun q e H => ∃ i, i ≤ min bs.length 20 ∧ q = 20 - i ∧ GoSt bs oa bi b5 i i e H) ?_ 20 _ _ _ ⟨0, Nat.zero_le _, rfl, h⟩ (by decide)
  rintro q e H ⟨i, hi, rfl, o, nx, lg, w, B, a7, rfl, M, E⟩
  have g0 := E.g0; have g3 := E.g3; have g5 := E.g5; have g7 := E.g7; have g8 := E.g8; have g9 := E.g9; have g10 := E.g10
  have hR := fun {b : Bool} {e : Tr Value} {nx' : Nat} {lg : List Nat} (hn : nx ≤ nx') (E : GoE bs.length oa bi b5 (kOf bs i) a7 (rOf bs i) (wOf bs i) i e) (hoa : oa = some ⟨0, 0, none⟩) (hb : bs[i]? = some b) (hi : i < 20) => go_b1 (lg := lg) hO (M.more (nx' := nx') hn fun _ _ => rfl) E hoa hb hi
  show Got (rCode _ _ _ (Code.seq (Code.seq _ (Code.cond _ _ _)) (Code.seq (goB1 Tryz.f3) _)) _ _) _
  generalize goB1 Tryz.f3 = T at hR ⊢
  by_cases hm : i < min bs.length 20
  · have h1 : i < bs.length := by omega
    have h2 : i < 20 := by omega
    have d1 : decide (i < bs.length) = true := decide_eq_true h1
    have d2 : decide (Int.ofNat i < 20) = true := decide_eq_true (by simp only [Int.ofNat_eq_natCast]; omega)
    have hoa' : oa = some ⟨0, 0, none⟩ := hoa.resolve_right fun hh => by rw [hh] at h1; simp at h1
    have w1 : IntKind.i64.wrap (Int.ofNat i + 1) = Int.ofNat (i + 1) := by
      have : Int.ofNat i + 1 = Int.ofNat (i + 1) := rfl
      rw [this]; exact IntWalk.i64_in _ (by simp only [Int.ofNat_eq_natCast]; omega)
    repeat (first | with_reducible (first | refine n_on ?_ | refine n_seq ?_ | refine s_else ?_ | refine n_t ?_ | refine n_gt ?_ | refine d_t ?_ | refine n_nil ?_ | refine d_nil ?_ | refine n_block ?_ | refine n_skip ?_ | refine n_bon ?_ | refine n_bback ?_ | refine n_back ?_ | refine n_out ?_ | refine n_bout rfl ?_ | refine n_bfar rfl ?_ | refine n_ret ?_ | refine n_exit ?_ | refine n_label ?_ | refine n_scope ?_ | refine n_son ?_ | refine n_sback ?_) | (with_reducible (first | apply n_region | apply d_region); (simp only [JV, JU, JW, Nat.reduceAdd, Nat.zero_add]; exact rfl)) | (with_reducible (first | apply s_op | apply n_guard | apply n_cond | apply d_guard | apply d_op | apply n_fin | apply n_finb); (simp (maxDischargeDepth := 6) only [sy3.1, zY, qG, qP, qQ, qR, qS, qT, rowAt, ↓jg, ↓ji, Nat.reduceAdd, Nat.reduceEqDiff, ne_eq, jG, Nat.reduceLT, if_true, ite_true, Int.reduceLE, Int.reduceLT, Int.reduceEq, Int.reduceNeg, Int.reduceAdd, Nat.reduceSub, if_false, ite_false, fs_3.1, g0, g10, d1, d2, kind_pure, kind_load, kind_fresh, kind_other, jg, ji, undef]; first | exact rfl | exact ⟨rfl, rfl, rfl, rfl⟩); try (with_reducible refine calmK_in ?_; decide +kernel)))
    refine (hR (by omega) (E.of ?_ ?_ ?_ ?_ ?_ ?_ ?_) hoa' (List.getElem?_eq_getElem h1) h2).mono ?_
    rotate_left 7
    · rintro s ⟨e1, H1, rfl, o1, nx1, lg1, wa, B1, a1, rfl, M1, E1⟩
      have f10 := E1.g10
      repeat (first | with_reducible (first | refine n_on ?_ | refine n_seq ?_ | refine s_else ?_ | refine n_t ?_ | refine n_gt ?_ | refine d_t ?_ | refine n_nil ?_ | refine d_nil ?_ | refine n_block ?_ | refine n_skip ?_ | refine n_bon ?_ | refine n_bback ?_ | refine n_back ?_ | refine n_out ?_ | refine n_bout rfl ?_ | refine n_bfar rfl ?_ | refine n_ret ?_ | refine n_exit ?_ | refine n_label ?_ | refine n_scope ?_ | refine n_son ?_ | refine n_sback ?_) | (with_reducible (first | apply n_region | apply d_region); (simp only [JV, JU, JW, Nat.reduceAdd, Nat.zero_add]; exact rfl)) | (with_reducible (first | apply s_op | apply n_guard | apply n_cond | apply d_guard | apply d_op | apply n_fin | apply n_finb); (simp (maxDischargeDepth := 6) only [sy3.1, zY, qG, qP, qQ, qR, qS, qT, rowAt, ↓jg, ↓ji, Nat.reduceAdd, Nat.reduceEqDiff, ne_eq, jG, Nat.reduceLT, if_true, ite_true, Int.reduceLE, Int.reduceLT, Int.reduceEq, Int.reduceNeg, Int.reduceAdd, Nat.reduceSub, if_false, ite_false, fs_3.1, f10, w1, kind_pure, kind_load, kind_fresh, kind_other, jg, ji, undef]; first | exact rfl | exact ⟨rfl, rfl, rfl, rfl⟩); try (with_reducible refine calmK_in ?_; decide +kernel)))
      refine ⟨20 - (i + 1), by omega, i + 1, by omega, rfl, o1, _, lg1, wa, B1, a1, rfl, M1.more (by omega) fun _ _ => rfl, E1.of ?_ ?_ ?_ ?_ ?_ ?_ ?_⟩ <;> simp only [qC, qD, qE, qF, Tr.get_nil, ne_eq, not_false_eq_true, Nat.reduceEqDiff]
    all_goals simp only [qC, qD, qE, qF, Tr.get_nil, ne_eq, not_false_eq_true, Nat.reduceEqDiff, g10]
  · have he : i = min bs.length 20 := by omega
    obtain ⟨d, hd⟩ : ∃ d, decide (i < bs.length) = d := ⟨_, rfl⟩
    cases d with
    | false =>
      repeat (first | with_reducible (first | refine n_on ?_ | refine n_seq ?_ | refine s_else ?_ | refine n_t ?_ | refine n_gt ?_ | refine d_t ?_ | refine n_nil ?_ | refine d_nil ?_ | refine n_block ?_ | refine n_skip ?_ | refine n_bon ?_ | refine n_bback ?_ | refine n_back ?_ | refine n_out ?_ | refine n_bout rfl ?_ | refine n_bfar rfl ?_ | refine n_ret ?_ | refine n_exit ?_ | refine n_label ?_ | refine n_scope ?_ | refine n_son ?_ | refine n_sback ?_) | (with_reducible (first | apply n_region | apply d_region); (simp only [JV, JU, JW, Nat.reduceAdd, Nat.zero_add]; exact rfl)) | (with_reducible (first | apply s_op | apply n_guard | apply n_cond | apply d_guard | apply d_op | apply n_fin | apply n_finb); (simp (maxDischargeDepth := 6) only [sy3.1, zY, qG, qP, qQ, qR, qS, qT, rowAt, ↓jg, ↓ji, Nat.reduceAdd, Nat.reduceEqDiff, ne_eq, jG, Nat.reduceLT, if_true, ite_true, Int.reduceLE, Int.reduceLT, Int.reduceEq, Int.reduceNeg, Int.reduceAdd, Nat.reduceSub, if_false, ite_false, fs_3.1, g0, g10, hd, kind_pure, kind_load, kind_fresh, kind_other, jg, ji, undef]; first | exact rfl | exact ⟨rfl, rfl, rfl, rfl⟩); try (with_reducible refine calmK_in ?_; decide +kernel)))
      rw [← he]
      refine ⟨_, _, rfl, o, _, lg, w, B, a7, rfl, M.more (by omega) fun _ _ => rfl, E.of ?_ ?_ ?_ ?_ ?_ ?_ ?_⟩ <;> simp only [qC, qD, qE, qF, Tr.get_nil, ne_eq, not_false_eq_true, Nat.reduceEqDiff, g10]
    | true =>
      have d2 : decide (Int.ofNat i < 20) = false := decide_eq_false (by simp only [decide_eq_true_eq] at hd; simp only [Int.ofNat_eq_natCast]; omega)
      repeat (first | with_reducible (first | refine n_on ?_ | refine n_seq ?_ | refine s_else ?_ | refine n_t ?_ | refine n_gt ?_ | refine d_t ?_ | refine n_nil ?_ | refine d_nil ?_ | refine n_block ?_ | refine n_skip ?_ | refine n_bon ?_ | refine n_bback ?_ | refine n_back ?_ | refine n_out ?_ | refine n_bout rfl ?_ | refine n_bfar rfl ?_ | refine n_ret ?_ | refine n_exit ?_ | refine n_label ?_ | refine n_scope ?_ | refine n_son ?_ | refine n_sback ?_) | (with_reducible (first | apply n_region | apply d_region); (simp only [JV, JU, JW, Nat.reduceAdd, Nat.zero_add]; exact rfl)) | (with_reducible (first | apply s_op | apply n_guard | apply n_cond | apply d_guard | apply d_op | apply n_fin | apply n_finb); (simp (maxDischargeDepth := 6) only [sy3.1, zY, qG, qP, qQ, qR, qS, qT, rowAt, ↓jg, ↓ji, Nat.reduceAdd, Nat.reduceEqDiff, ne_eq, jG, Nat.reduceLT, if_true, ite_true, Int.reduceLE, Int.reduceLT, Int.reduceEq, Int.reduceNeg, Int.reduceAdd, Nat.reduceSub, if_false, ite_false, fs_3.1, g0, g10, hd, d2, kind_pure, kind_load, kind_fresh, kind_other, jg, ji, undef]; first | exact rfl | exact ⟨rfl, rfl, rfl, rfl⟩); try (with_reducible refine calmK_in ?_; decide +kernel)))
      rw [← he]
      refine ⟨_, _, rfl, o, _, lg, w, B, a7, rfl, M.more (by omega) fun _ _ => rfl, E.of ?_ ?_ ?_ ?_ ?_ ?_ ?_⟩ <;> simp only [qC, qD, qE, qF, Tr.get_nil, ne_eq, not_false_eq_true, Nat.reduceEqDiff, g10]
end
end Go.Proofs.YtdfadipfhcikdaaGreatDoor
