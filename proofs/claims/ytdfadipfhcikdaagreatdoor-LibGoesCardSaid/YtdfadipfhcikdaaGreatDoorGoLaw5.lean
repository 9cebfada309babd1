/- LibGoes: the walk with next: the loop. -/
import Derived.Test.YtdfadipfhcikdaaGreatDoorGoLaw4
namespace Go.Proofs.YtdfadipfhcikdaaGreatDoor
open Go.RowKit
set_option linter.unusedSimpArgs false
set_option linter.unusedVariables false
set_option maxRecDepth 100000

theorem MidSt.put {bs : List Bool} {bi b5 : Nat} {ks : List Nat} {rw r : Nat} {v : VV} {e e' : Tr Value} {o : Tr AObj} {nx : Nat} {lg lg' : List Nat} (h : MidSt bs bi b5 ks rw r v e ⟨o, nx, lg⟩) {nx' : Nat} (hn : nx ≤ nx') (h3 : e'.get 3 = e.get 3) (h5 : e'.get 5 = e.get 5) (h7 : e'.get 7 = e.get 7) (h8 : e'.get 8 = e.get 8) (h11 : e'.get 11 = e.get 11) (h12 : e'.get 12 = e.get 12) (h13 : e'.get 13 = e.get 13) : MidSt bs bi b5 ks rw r v e' ⟨o, nx', lg'⟩ := by
  obtain ⟨o, nx, lg, w, B, a7, b, q, b13, a12, heq, L, E, g11, g12, g13⟩ := h
  cases heq
  exact ⟨_, _, _, w, B, a7, b, q, b13, a12, rfl, L.more hn fun _ _ => rfl, ⟨h3.trans E.g3, h5.trans E.g5, h7.trans E.g7, h8.trans E.g8⟩, h11.trans g11, h12.trans g12, h13.trans g13⟩
section
variable {O : Helps} {n : Nat}
set_option maxHeartbeats 64000000 in
theorem go_loop2 (hO : Clear O) {bs : List Bool} {bi b5 rw : Nat} {ks : List Nat} {e : Tr Value} {H : AHeap} (hnd : ks.Nodup) (hl : ks.length ≤ 20) (h : MidSt bs bi b5 ks rw 0 (0, 0) e H) (h14 : e.get 14 = some (.int .i64 (.ofNat 0))) :
    Got (rCode Tryz.prog (oCall Tryz.prog [] O 9999) 9999 (blkIn (sqR (sqL (goR2 Tryz.f3)))) e H) fun s => ∃ e' H', s = (.out 2, e', H') ∧ MidSt bs bi b5 ks rw ks.length (kAt ks ks.length) e' H' := by
  show Got (rCode _ _ _ (Code.loop (goL2 Tryz.f3)) _ _) _
  rw [y_loop_eq]
  refine y_loop (I := fun q e H => ∃ i, i ≤ ks.length ∧ q = ks.length - i ∧ MidSt bs bi b5 ks rw i (kAt ks i) e H ∧ e.get 14 = some (.int .i64 (.ofNat i))) ?_ ks.length _ _ _ ⟨0, Nat.zero_le _, rfl, h, h14⟩ (by omega)
  rintro q e H ⟨i, hi, rfl, M, g14⟩
  have hR := fun {k : Nat} {e : Tr Value} {H : AHeap} (h : MidSt bs bi b5 ks rw i (kAt ks i) e H) (hk : ks[i]? = some k) => go_b3_go hO hnd (by omega) h hk
  have hE := fun {e : Tr Value} {H : AHeap} (h : MidSt bs bi b5 ks rw i (kAt ks i) e H) (hk : i = ks.length) => go_b3_end hO hnd (by omega) h hk
  show Got (rCode _ _ _ (Code.seq (Code.seq _ (Code.cond _ _ _)) (Code.seq (goB3 Tryz.f3) _)) _ _) _
  generalize goB3 Tryz.f3 = T at hR hE ⊢
  obtain ⟨o, nx, lg⟩ := H
  have d2 : decide (Int.ofNat i ≤ 20) = true := decide_eq_true (by simp only [Int.ofNat_eq_natCast]; omega)
  have w1 : IntKind.i64.wrap (Int.ofNat i + 1) = Int.ofNat (i + 1) := by
    have : Int.ofNat i + 1 = Int.ofNat (i + 1) := rfl
    rw [this]; exact IntWalk.i64_in _ (by simp only [Int.ofNat_eq_natCast]; omega)
  by_cases hm : i < ks.length
  · repeat (first | with_reducible (first | refine n_on ?_ | refine n_seq ?_ | refine s_else ?_ | refine n_t ?_ | refine n_gt ?_ | refine d_t ?_ | refine n_nil ?_ | refine d_nil ?_ | refine n_block ?_ | refine n_skip ?_ | refine n_bon ?_ | refine n_bback ?_ | refine n_back ?_ | refine n_out ?_ | refine n_bout rfl ?_ | refine n_bfar rfl ?_ | refine n_ret ?_ | refine n_exit ?_ | refine n_label ?_ | refine n_scope ?_ | refine n_son ?_ | refine n_sback ?_) | (with_reducible (first | apply n_region | apply d_region); (simp only [JV, JU, JW, Nat.reduceAdd, Nat.zero_add]; exact rfl)) | (with_reducible (first | apply s_op | apply n_guard | apply n_cond | apply d_guard | apply d_op | apply n_fin | apply n_finb); (simp (maxDischargeDepth := 6) only [sy3.1, zY, qG, qP, qQ, qR, qS, qT, rowAt, ↓jg, ↓ji, Nat.reduceAdd, Nat.reduceEqDiff, ne_eq, jG, Nat.reduceLT, if_true, ite_true, Int.reduceLE, Int.reduceLT, Int.reduceEq, Int.reduceNeg, Int.reduceAdd, Nat.reduceSub, if_false, ite_false, fs_3.1, g14, d2, kind_pure, kind_load, kind_fresh, kind_other, jg, ji, undef]; first | exact rfl | exact ⟨rfl, rfl, rfl, rfl⟩); try (with_reducible refine calmK_in ?_; decide +kernel)))
    refine (hR (M.put (by omega) ?_ ?_ ?_ ?_ ?_ ?_ ?_) (List.getElem?_eq_getElem hm)).mono ?_
    rotate_left 7
    · rintro s ⟨e1, ⟨o1, nx1, lg1⟩, rfl, h14', M1⟩
      simp only [qC, qD, qE, qF, Tr.get_nil, ne_eq, not_false_eq_true, Nat.reduceEqDiff] at h14'
      have f14 := h14'.trans g14
      repeat (first | with_reducible (first | refine n_on ?_ | refine n_seq ?_ | refine s_else ?_ | refine n_t ?_ | refine n_gt ?_ | refine d_t ?_ | refine n_nil ?_ | refine d_nil ?_ | refine n_block ?_ | refine n_skip ?_ | refine n_bon ?_ | refine n_bback ?_ | refine n_back ?_ | refine n_out ?_ | refine n_bout rfl ?_ | refine n_bfar rfl ?_ | refine n_ret ?_ | refine n_exit ?_ | refine n_label ?_ | refine n_scope ?_ | refine n_son ?_ | refine n_sback ?_) | (with_reducible (first | apply n_region | apply d_region); (simp only [JV, JU, JW, Nat.reduceAdd, Nat.zero_add]; exact rfl)) | (with_reducible (first | apply s_op | apply n_guard | apply n_cond | apply d_guard | apply d_op | apply n_fin | apply n_finb); (simp (maxDischargeDepth := 6) only [sy3.1, zY, qG, qP, qQ, qR, qS, qT, rowAt, ↓jg, ↓ji, Nat.reduceAdd, Nat.reduceEqDiff, ne_eq, jG, Nat.reduceLT, if_true, ite_true, Int.reduceLE, Int.reduceLT, Int.reduceEq, Int.reduceNeg, Int.reduceAdd, Nat.reduceSub, if_false, ite_false, fs_3.1, f14, w1, kind_pure, kind_load, kind_fresh, kind_other, jg, ji, undef]; first | exact rfl | exact ⟨rfl, rfl, rfl, rfl⟩); try (with_reducible refine calmK_in ?_; decide +kernel)))
      refine ⟨ks.length - (i + 1), by omega, i + 1, by omega, rfl, M1.put (by omega) ?_ ?_ ?_ ?_ ?_ ?_ ?_, ?_⟩ <;> simp only [qC, qD, qE, qF, Tr.get_nil, ne_eq, not_false_eq_true, Nat.reduceEqDiff]
    all_goals simp only [qC, qD, qE, qF, Tr.get_nil, ne_eq, not_false_eq_true, Nat.reduceEqDiff]
  · have he : i = ks.length := by omega
    repeat (first | with_reducible (first | refine n_on ?_ | refine n_seq ?_ | refine s_else ?_ | refine n_t ?_ | refine n_gt ?_ | refine d_t ?_ | refine n_nil ?_ | refine d_nil ?_ | refine n_block ?_ | refine n_skip ?_ | refine n_bon ?_ | refine n_bback ?_ | refine n_back ?_ | refine n_out ?_ | refine n_bout rfl ?_ | refine n_bfar rfl ?_ | refine n_ret ?_ | refine n_exit ?_ | refine n_label ?_ | refine n_scope ?_ | refine n_son ?_ | refine n_sback ?_) | (with_reducible (first | apply n_region | apply d_region); (simp only [JV, JU, JW, Nat.reduceAdd, Nat.zero_add]; exact rfl)) | (with_reducible (first | apply s_op | apply n_guard | apply n_cond | apply d_guard | apply d_op | apply n_fin | apply n_finb); (simp (maxDischargeDepth := 6) only [sy3.1, zY, qG, qP, qQ, qR, qS, qT, rowAt, ↓jg, ↓ji, Nat.reduceAdd, Nat.reduceEqDiff, ne_eq, jG, Nat.reduceLT, if_true, ite_true, Int.reduceLE, Int.reduceLT, Int.reduceEq, Int.reduceNeg, Int.reduceAdd, Nat.reduceSub, if_false, ite_false, fs_3.1, g14, d2, kind_pure, kind_load, kind_fresh, kind_other, jg, ji, undef]; first | exact rfl | exact ⟨rfl, rfl, rfl, rfl⟩); try (with_reducible refine calmK_in ?_; decide +kernel)))
    refine (hE (M.put (by omega) ?_ ?_ ?_ ?_ ?_ ?_ ?_) he).mono ?_
    rotate_left 7
    · rintro s ⟨e1, H1, rfl, _, M1⟩
      exact ⟨_, _, rfl, he ▸ M1⟩
    all_goals simp only [qC, qD, qE, qF, Tr.get_nil, ne_eq, not_false_eq_true, Nat.reduceEqDiff]
end
end Go.Proofs.YtdfadipfhcikdaaGreatDoor
