/- LibGoes: the walk with ipairs: the loop. -/
import Derived.Test.YtdfadipfhcikdaaGreatDoorGoLaw6
namespace Go.Proofs.YtdfadipfhcikdaaGreatDoor
open Go.RowKit
set_option linter.unusedSimpArgs false
set_option linter.unusedVariables false
set_option maxRecDepth 100000

def goL4 (f : Func) : Code := lpIn (blkIn (sqR (sqL (goR4 f))))
def goB5 (f : Func) : Code := sqL (sqR (goL4 f))
section
variable {O : Helps} {n : Nat}
def StepTo (bs : List Bool) (bi b5 : Nat) (ks : List Nat) (rw r : Nat) (e : Tr Value) (way : Way) (s : St) : Prop :=
  ∃ e' H', s = (way, e', H') ∧ e'.get 18 = e.get 18 ∧ StpSt bs bi b5 ks rw r e' H'
set_option maxHeartbeats 64000000 in
theorem go_b5_end (hO : Clear O) {bs : List Bool} {bi b5 r rw : Nat} {ks : List Nat} {e : Tr Value} {H : AHeap} (h : StpSt bs bi b5 ks rw r e H) (hr : r ∉ ks) (hr2 : r ≤ 20) :
    Got (rCode Tryz.prog (oCall Tryz.prog [] O 9999) 9999 (goB5 Tryz.f3) e H) (StepTo bs bi b5 ks rw r e (.out 4)) := by
  obtain ⟨o, nx, lg, w, B, a7, b, q0, b13, a12, rfl, L, E, g16, g12, g13, g17⟩ := h
  have M := L.M
  have g3 := E.g3; have g5 := E.g5; have g7 := E.g7; have g8 := E.g8
  have r5 := M.r5; have lt5 := M.lt5; have r11 := L.r11; have rq := L.rq; have r13 := L.r13; have l11 := L.l11; have lq := L.lq; have l13 := L.l13
  have hx : getO (hsG ks) (5, 1) (3, Int.ofNat r + 1) = (0, 0) := by rw [get_G, getL_K, if_neg hr]
  refine n_block ?_
  repeat (first | with_reducible (first | refine n_on ?_ | refine n_seq ?_ | refine s_else ?_ | refine n_t ?_ | refine n_gt ?_ | refine d_t ?_ | refine n_nil ?_ | refine d_nil ?_ | refine n_block ?_ | refine n_skip ?_ | refine n_bon ?_ | refine n_bback ?_ | refine n_back ?_ | refine n_out ?_ | refine n_bout rfl ?_ | refine n_bfar rfl ?_ | refine n_ret ?_ | refine n_exit ?_ | refine n_label ?_ | refine n_scope ?_ | refine n_son ?_ | refine n_sback ?_) | (with_reducible (first | apply n_region | apply d_region); (simp only [JV, JU, JW, Nat.reduceAdd, Nat.zero_add]; exact rfl)) | (with_reducible (first | apply s_op | apply n_guard | apply n_cond | apply d_guard | apply d_op | apply n_fin | apply n_finb); (simp (maxDischargeDepth := 6) only [sy3.1, zY, qG, qP, qQ, qR, qS, qT, rowAt, ↓jg, ↓ji, Nat.reduceAdd, Nat.reduceEqDiff, ne_eq, jG, Nat.reduceLT, if_true, ite_true, Int.reduceLE, Int.reduceLT, Int.reduceEq, Int.reduceNeg, Int.reduceAdd, Nat.reduceSub, if_false, ite_false, fs_3.1, g3, g5, g16, g12, g13, r5, lt5, r11, rq, r13, l11, lq, l13, ix30, bs2, st_buildSliceV, kind_pure, kind_load, kind_fresh, kind_other, jg, ji, undef]; first | exact rfl | exact ⟨rfl, rfl, rfl, rfl⟩); try (with_reducible refine calmK_in ?_; decide +kernel)))
  refine d_do (DoneTo _ (nx + 12) [] [(0, 0)]) 3 (by
    simp (maxDischargeDepth := 6) only [sy3.1, zY, qG, qP, qQ, qR, qS, qT, rowAt, ↓jg, ↓ji, Nat.reduceAdd, Nat.reduceEqDiff, ne_eq, jG, Nat.reduceLT, if_true, ite_true, Int.reduceLE, Int.reduceLT, Int.reduceEq, Int.reduceNeg, Int.reduceAdd, Nat.reduceSub, if_false, ite_false, fs_3.1, g3, ← M.hB]
    exact call_step_end (n := 9991) hO (M.heap.more (by omega) fun x hx => by (repeat (first | rw [qE] | rw [qF _ _ _ _ (by omega)]))) (by omega) (qE _ _ _) rfl ⟨by simp only [Int.ofNat_eq_natCast]; omega, by simp only [Int.ofNat_eq_natCast]; omega⟩ hx rfl) ?_ (by decide +kernel) ?_
  · exact done_kind rfl (Nat.le_refl _)
  rintro v1 o1 nx1 l1 ⟨q, _, _, heq, hq, hq2, hrq, hfr⟩ cl
  cases heq
  have hrq' : o1.get q = some (.row [.int .u8 0, .int .i64 0] 29 2 true) := hrq
  have hq57 : q ≠ nx + 10 := by omega
  have d00 : decide ((0 : Int) = 0) = true := rfl
  repeat (first | with_reducible (first | refine n_on ?_ | refine n_seq ?_ | refine s_else ?_ | refine n_t ?_ | refine n_gt ?_ | refine d_t ?_ | refine n_nil ?_ | refine d_nil ?_ | refine n_block ?_ | refine n_skip ?_ | refine n_bon ?_ | refine n_bback ?_ | refine n_back ?_ | refine n_out ?_ | refine n_bout rfl ?_ | refine n_bfar rfl ?_ | refine n_ret ?_ | refine n_exit ?_ | refine n_label ?_ | refine n_scope ?_ | refine n_son ?_ | refine n_sback ?_) | (with_reducible (first | apply n_region | apply d_region); (simp only [JV, JU, JW, Nat.reduceAdd, Nat.zero_add]; exact rfl)) | (with_reducible (first | apply s_op | apply n_guard | apply n_cond | apply d_guard | apply d_op | apply n_fin | apply n_finb); (simp (maxDischargeDepth := 6) only [sy3.1, zY, qG, qP, qQ, qR, qS, qT, rowAt, ↓jg, ↓ji, Nat.reduceAdd, Nat.reduceEqDiff, ne_eq, jG, Nat.reduceLT, if_true, ite_true, Int.reduceLE, Int.reduceLT, Int.reduceEq, Int.reduceNeg, Int.reduceAdd, Nat.reduceSub, if_false, ite_false, fs_3.1, g3, hrq', toldV, ix10, d00, hq57, kind_pure, kind_load, kind_fresh, kind_other, jg, ji, undef]; first | exact rfl | exact ⟨rfl, rfl, rfl, rfl⟩); try (with_reducible refine calmK_in ?_; decide +kernel)))
  refine ⟨_, _, rfl, by simp only [qC, qD, qE, qF, Tr.get_nil, ne_eq, not_false_eq_true, Nat.reduceEqDiff], _, _, _, w, B, a7, b, q0, b13, a12, rfl, L.more (by omega) fun x hx => ?_, ⟨?_, ?_, ?_, ?_⟩, ?_, ?_, ?_, ?_⟩
  · (repeat (first | rw [qE] | rw [qF _ _ _ _ (by omega)])); rw [hfr x (by omega)]; (repeat (first | rw [qE] | rw [qF _ _ _ _ (by omega)]))
  all_goals simp only [qC, qD, qE, qF, Tr.get_nil, ne_eq, not_false_eq_true, Nat.reduceEqDiff, g3, g5, g7, g8, g16, g12, g13, g17]
set_option maxHeartbeats 64000000 in
theorem go_b5_go (hO : Clear O) {bs : List Bool} {bi b5 r rw : Nat} {ks : List Nat} {e : Tr Value} {H : AHeap} (h : StpSt bs bi b5 ks rw r e H) (hr : r ∈ ks) (hr2 : r ≤ 20) :
    Got (rCode Tryz.prog (oCall Tryz.prog [] O 9999) 9999 (goB5 Tryz.f3) e H) (StepTo bs bi b5 ks rw (r + 1) e .on) := by
  obtain ⟨o, nx, lg, w, B, a7, b, q0, b13, a12, rfl, L, E, g16, g12, g13, g17⟩ := h
  have M := L.M
  have g3 := E.g3; have g5 := E.g5; have g7 := E.g7; have g8 := E.g8
  have r5 := M.r5; have lt5 := M.lt5; have r11 := L.r11; have rq := L.rq; have r13 := L.r13; have l11 := L.l11; have lq := L.lq; have l13 := L.l13
  have hx : getO (hsG ks) (5, 1) (3, Int.ofNat r + 1) = (3, Int.ofNat r + 50) := by rw [get_G, getL_K, if_pos hr]
  have w1 : IntKind.i64.wrap (Int.ofNat r + 1) = Int.ofNat (r + 1) := by
    have : Int.ofNat r + 1 = Int.ofNat (r + 1) := rfl
    rw [this]; exact IntWalk.i64_in _ (by simp only [Int.ofNat_eq_natCast]; omega)
  refine n_block ?_
  repeat (first | with_reducible (first | refine n_on ?_ | refine n_seq ?_ | refine s_else ?_ | refine n_t ?_ | refine n_gt ?_ | refine d_t ?_ | refine n_nil ?_ | refine d_nil ?_ | refine n_block ?_ | refine n_skip ?_ | refine n_bon ?_ | refine n_bback ?_ | refine n_back ?_ | refine n_out ?_ | refine n_bout rfl ?_ | refine n_bfar rfl ?_ | refine n_ret ?_ | refine n_exit ?_ | refine n_label ?_ | refine n_scope ?_ | refine n_son ?_ | refine n_sback ?_) | (with_reducible (first | apply n_region | apply d_region); (simp only [JV, JU, JW, Nat.reduceAdd, Nat.zero_add]; exact rfl)) | (with_reducible (first | apply s_op | apply n_guard | apply n_cond | apply d_guard | apply d_op | apply n_fin | apply n_finb); (simp (maxDischargeDepth := 6) only [sy3.1, zY, qG, qP, qQ, qR, qS, qT, rowAt, ↓jg, ↓ji, Nat.reduceAdd, Nat.reduceEqDiff, ne_eq, jG, Nat.reduceLT, if_true, ite_true, Int.reduceLE, Int.reduceLT, Int.reduceEq, Int.reduceNeg, Int.reduceAdd, Nat.reduceSub, if_false, ite_false, fs_3.1, g3, g5, g16, g12, g13, r5, lt5, r11, rq, r13, l11, lq, l13, ix30, bs2, st_buildSliceV, kind_pure, kind_load, kind_fresh, kind_other, jg, ji, undef]; first | exact rfl | exact ⟨rfl, rfl, rfl, rfl⟩); try (with_reducible refine calmK_in ?_; decide +kernel)))
  refine d_do (DoneTo _ (nx + 12) [] [(3, Int.ofNat r + 1), (3, Int.ofNat r + 50)]) 3 (by
    simp (maxDischargeDepth := 6) only [sy3.1, zY, qG, qP, qQ, qR, qS, qT, rowAt, ↓jg, ↓ji, Nat.reduceAdd, Nat.reduceEqDiff, ne_eq, jG, Nat.reduceLT, if_true, ite_true, Int.reduceLE, Int.reduceLT, Int.reduceEq, Int.reduceNeg, Int.reduceAdd, Nat.reduceSub, if_false, ite_false, fs_3.1, g3, ← M.hB]
    exact call_step_go (n := 9991) hO (M.heap.more (by omega) fun x hx => by (repeat (first | rw [qE] | rw [qF _ _ _ _ (by omega)]))) (by omega) (qE _ _ _) rfl ⟨by simp only [Int.ofNat_eq_natCast]; omega, by simp only [Int.ofNat_eq_natCast]; omega⟩ hx (by decide)) ?_ (by decide +kernel) ?_
  · exact done_kind rfl (Nat.le_refl _)
  rintro v1 o1 nx1 l1 ⟨q, _, _, heq, hq, hq2, hrq, hfr⟩ cl
  cases heq
  have hrq' : o1.get q = some (.row [.int .u8 3, .int .i64 (Int.ofNat r + 1), .int .u8 3, .int .i64 (Int.ofNat r + 50)] 29 2 true) := hrq
  have hq57 : q ≠ nx + 10 := by omega
  have d00 : decide ((3 : Int) = 0) = false := rfl
  have f13 : o1.get b13 = some (.row [.int .u8 3, .int .i64 (Int.ofNat r)] 29 0 true) := by rw [hfr b13 (by omega)]; (repeat (first | rw [qE] | rw [qF _ _ _ _ (by omega)])); exact r13
  have lt13 : b13 < nx1 := by omega
  have hb13 : b13 ≠ nx + 10 := by omega
  have l10 : nx + 10 < nx1 := by omega
  repeat (first | with_reducible (first | refine n_on ?_ | refine n_seq ?_ | refine s_else ?_ | refine n_t ?_ | refine n_gt ?_ | refine d_t ?_ | refine n_nil ?_ | refine d_nil ?_ | refine n_block ?_ | refine n_skip ?_ | refine n_bon ?_ | refine n_bback ?_ | refine n_back ?_ | refine n_out ?_ | refine n_bout rfl ?_ | refine n_bfar rfl ?_ | refine n_ret ?_ | refine n_exit ?_ | refine n_label ?_ | refine n_scope ?_ | refine n_son ?_ | refine n_sback ?_) | (with_reducible (first | apply n_region | apply d_region); (simp only [JV, JU, JW, Nat.reduceAdd, Nat.zero_add]; exact rfl)) | (with_reducible (first | apply s_op | apply n_guard | apply n_cond | apply d_guard | apply d_op | apply n_fin | apply n_finb); (simp (maxDischargeDepth := 6) only [sy3.1, zY, qG, qP, qQ, qR, qS, qT, rowAt, ↓jg, ↓ji, Nat.reduceAdd, Nat.reduceEqDiff, ne_eq, jG, Nat.reduceLT, if_true, ite_true, Int.reduceLE, Int.reduceLT, Int.reduceEq, Int.reduceNeg, Int.reduceAdd, Nat.reduceSub, if_false, ite_false, fs_3.1, g3, hrq', toldV, ix20, d00, hq57, f13, g13, g17, lt13, hb13, l10, hq2, cut4a, w1, kind_pure, kind_load, kind_fresh, kind_other, jg, ji, undef]; first | exact rfl | exact ⟨rfl, rfl, rfl, rfl⟩); try (with_reducible refine calmK_in ?_; decide +kernel)))
  have L1 := L.more (o' := o1) (nx' := nx1) (by omega) (fun x hx => by rw [hfr x (by omega)]; (repeat (first | rw [qE] | rw [qF _ _ _ _ (by omega)])))
  refine ⟨_, _, rfl, by simp only [qC, qD, qE, qF, Tr.get_nil, ne_eq, not_false_eq_true, Nat.reduceEqDiff], _, _, _, w, B, a7, b, q0, b13, a12, rfl, L.turn0 (by omega) (fun x hx hx13 => ?_) ?_, ⟨?_, ?_, ?_, ?_⟩, ?_, ?_, ?_, ?_⟩
  · (repeat (first | rw [qE] | rw [qF _ _ _ _ (by omega)])); rw [hfr x (by omega)]; (repeat (first | rw [qE] | rw [qF _ _ _ _ (by omega)]))
  · (repeat (first | rw [qE] | rw [qF _ _ _ _ (by omega)])); rfl
  all_goals simp only [qC, qD, qE, qF, Tr.get_nil, ne_eq, not_false_eq_true, Nat.reduceEqDiff, g3, g5, g7, g8, g16, g12, g13, g17]
theorem StpSt.put {bs : List Bool} {bi b5 : Nat} {ks : List Nat} {rw r : Nat} {e e' : Tr Value} {o : Tr AObj} {nx : Nat} {lg lg' : List Nat} (h : StpSt bs bi b5 ks rw r e ⟨o, nx, lg⟩) {nx' : Nat} (hn : nx ≤ nx') (h3 : e'.get 3 = e.get 3) (h5 : e'.get 5 = e.get 5) (h7 : e'.get 7 = e.get 7) (h8 : e'.get 8 = e.get 8) (h16 : e'.get 16 = e.get 16) (h12 : e'.get 12 = e.get 12) (h13 : e'.get 13 = e.get 13) (h17 : e'.get 17 = e.get 17) : StpSt bs bi b5 ks rw r e' ⟨o, nx', lg'⟩ := by
  obtain ⟨o, nx, lg, w, B, a7, b, q, b13, a12, heq, L, E, g11, g12, g13, g17⟩ := h
  cases heq
  exact ⟨_, _, _, w, B, a7, b, q, b13, a12, rfl, L.more hn fun _ _ => rfl, ⟨h3.trans E.g3, h5.trans E.g5, h7.trans E.g7, h8.trans E.g8⟩, h16.trans g11, h12.trans g12, h13.trans g13, h17.trans g17⟩
set_option maxHeartbeats 64000000 in
theorem go_loop3 (hO : Clear O) {bs : List Bool} {bi b5 rw R : Nat} {ks : List Nat} {e : Tr Value} {H : AHeap} (hR : R ∉ ks) (hR2 : ∀ r, r < R → r ∈ ks) (hl : R ≤ 20) (h : StpSt bs bi b5 ks rw 0 e H) (h18 : e.get 18 = some (.int .i64 (.ofNat 0))) :
    Got (rCode Tryz.prog (oCall Tryz.prog [] O 9999) 9999 (blkIn (sqR (sqL (goR4 Tryz.f3)))) e H) fun s => ∃ e' H', s = (.out 4, e', H') ∧ StpSt bs bi b5 ks rw R e' H' := by
  show Got (rCode _ _ _ (Code.loop (goL4 Tryz.f3)) _ _) _
  rw [y_loop_eq]
  refine y_loop (I := fun q e H => ∃ i, i ≤ R ∧ q = R - i ∧ StpSt bs bi b5 ks rw i e H ∧ e.get 18 = some (.int .i64 (.ofNat i))) ?_ R _ _ _ ⟨0, Nat.zero_le _, rfl, h, h18⟩ (by omega)
  rintro q e H ⟨i, hi, rfl, M, g18⟩
  have hG := fun {e : Tr Value} {H : AHeap} (h : StpSt bs bi b5 ks rw i e H) (hk : i ∈ ks) => go_b5_go hO h hk (by omega)
  have hE := fun {e : Tr Value} {H : AHeap} (h : StpSt bs bi b5 ks rw i e H) (hk : i ∉ ks) => go_b5_end hO h hk (by omega)
  show Got (rCode _ _ _ (Code.seq (Code.seq _ (Code.cond _ _ _)) (Code.seq (goB5 Tryz.f3) _)) _ _) _
  generalize goB5 Tryz.f3 = T at hG hE ⊢
  obtain ⟨o, nx, lg⟩ := H
  have d2 : decide (Int.ofNat i ≤ 20) = true := decide_eq_true (by simp only [Int.ofNat_eq_natCast]; omega)
  have w1 : IntKind.i64.wrap (Int.ofNat i + 1) = Int.ofNat (i + 1) := by
    have : Int.ofNat i + 1 = Int.ofNat (i + 1) := rfl
    rw [this]; exact IntWalk.i64_in _ (by simp only [Int.ofNat_eq_natCast]; omega)
  by_cases hm : i < R
  · repeat (first | with_reducible (first | refine n_on ?_ | refine n_seq ?_ | refine s_else ?_ | refine n_t ?_ | refine n_gt ?_ | refine d_t ?_ | refine n_nil ?_ | refine d_nil ?_ | refine n_block ?_ | refine n_skip ?_ | refine n_bon ?_ | refine n_bback ?_ | refine n_back ?_ | refine n_out ?_ | refine n_bout rfl ?_ | refine n_bfar rfl ?_ | refine n_ret ?_ | refine n_exit ?_ | refine n_label ?_ | refine n_scope ?_ | refine n_son ?_ | refine n_sback ?_) | (with_reducible (first | apply n_region | apply d_region); (simp only [JV, JU, JW, Nat.reduceAdd, Nat.zero_add]; exact rfl)) | (with_reducible (first | apply s_op | apply n_guard | apply n_cond | apply d_guard | apply d_op | apply n_fin | apply n_finb); (simp (maxDischargeDepth := 6) only [sy3.1, zY, qG, qP, qQ, qR, qS, qT, rowAt, ↓jg, ↓ji, Nat.reduceAdd, Nat.reduceEqDiff, ne_eq, jG, Nat.reduceLT, if_true, ite_true, Int.reduceLE, Int.reduceLT, Int.reduceEq, Int.reduceNeg, Int.reduceAdd, Nat.reduceSub, if_false, ite_false, fs_3.1, g18, d2, kind_pure, kind_load, kind_fresh, kind_other, jg, ji, undef]; first | exact rfl | exact ⟨rfl, rfl, rfl, rfl⟩); try (with_reducible refine calmK_in ?_; decide +kernel)))
    refine (hG (M.put (by omega) ?_ ?_ ?_ ?_ ?_ ?_ ?_ ?_) (hR2 i hm)).mono ?_
    rotate_left 8
    · rintro s ⟨e1, ⟨o1, nx1, lg1⟩, rfl, h18', M1⟩
      simp only [qC, qD, qE, qF, Tr.get_nil, ne_eq, not_false_eq_true, Nat.reduceEqDiff] at h18'
      have f18 := h18'.trans g18
      repeat (first | with_reducible (first | refine n_on ?_ | refine n_seq ?_ | refine s_else ?_ | refine n_t ?_ | refine n_gt ?_ | refine d_t ?_ | refine n_nil ?_ | refine d_nil ?_ | refine n_block ?_ | refine n_skip ?_ | refine n_bon ?_ | refine n_bback ?_ | refine n_back ?_ | refine n_out ?_ | refine n_bout rfl ?_ | refine n_bfar rfl ?_ | refine n_ret ?_ | refine n_exit ?_ | refine n_label ?_ | refine n_scope ?_ | refine n_son ?_ | refine n_sback ?_) | (with_reducible (first | apply n_region | apply d_region); (simp only [JV, JU, JW, Nat.reduceAdd, Nat.zero_add]; exact rfl)) | (with_reducible (first | apply s_op | apply n_guard | apply n_cond | apply d_guard | apply d_op | apply n_fin | apply n_finb); (simp (maxDischargeDepth := 6) only [sy3.1, zY, qG, qP, qQ, qR, qS, qT, rowAt, ↓jg, ↓ji, Nat.reduceAdd, Nat.reduceEqDiff, ne_eq, jG, Nat.reduceLT, if_true, ite_true, Int.reduceLE, Int.reduceLT, Int.reduceEq, Int.reduceNeg, Int.reduceAdd, Nat.reduceSub, if_false, ite_false, fs_3.1, f18, w1, kind_pure, kind_load, kind_fresh, kind_other, jg, ji, undef]; first | exact rfl | exact ⟨rfl, rfl, rfl, rfl⟩); try (with_reducible refine calmK_in ?_; decide +kernel)))
      refine ⟨R - (i + 1), by omega, i + 1, by omega, rfl, M1.put (by omega) ?_ ?_ ?_ ?_ ?_ ?_ ?_ ?_, ?_⟩ <;> simp only [qC, qD, qE, qF, Tr.get_nil, ne_eq, not_false_eq_true, Nat.reduceEqDiff]
    all_goals simp only [qC, qD, qE, qF, Tr.get_nil, ne_eq, not_false_eq_true, Nat.reduceEqDiff]
  · have he : i = R := by omega
    repeat (first | with_reducible (first | refine n_on ?_ | refine n_seq ?_ | refine s_else ?_ | refine n_t ?_ | refine n_gt ?_ | refine d_t ?_ | refine n_nil ?_ | refine d_nil ?_ | refine n_block ?_ | refine n_skip ?_ | refine n_bon ?_ | refine n_bback ?_ | refine n_back ?_ | refine n_out ?_ | refine n_bout rfl ?_ | refine n_bfar rfl ?_ | refine n_ret ?_ | refine n_exit ?_ | refine n_label ?_ | refine n_scope ?_ | refine n_son ?_ | refine n_sback ?_) | (with_reducible (first | apply n_region | apply d_region); (simp only [JV, JU, JW, Nat.reduceAdd, Nat.zero_add]; exact rfl)) | (with_reducible (first | apply s_op | apply n_guard | apply n_cond | apply d_guard | apply d_op | apply n_fin | apply n_finb); (simp (maxDischargeDepth := 6) only [sy3.1, zY, qG, qP, qQ, qR, qS, qT, rowAt, ↓jg, ↓ji, Nat.reduceAdd, Nat.reduceEqDiff, ne_eq, jG, Nat.reduceLT, if_true, ite_true, Int.reduceLE, Int.reduceLT, Int.reduceEq, Int.reduceNeg, Int.reduceAdd, Nat.reduceSub, if_false, ite_false, fs_3.1, g18, d2, kind_pure, kind_load, kind_fresh, kind_other, jg, ji, undef]; first | exact rfl | exact ⟨rfl, rfl, rfl, rfl⟩); try (with_reducible refine calmK_in ?_; decide +kernel)))
    refine (hE (M.put (by omega) ?_ ?_ ?_ ?_ ?_ ?_ ?_ ?_) (by rw [he]; exact hR)).mono ?_
    rotate_left 8
    · rintro s ⟨e1, H1, rfl, _, M1⟩
      exact ⟨_, _, rfl, he ▸ M1⟩
    all_goals simp only [qC, qD, qE, qF, Tr.get_nil, ne_eq, not_false_eq_true, Nat.reduceEqDiff]
end
end Go.Proofs.YtdfadipfhcikdaaGreatDoor
