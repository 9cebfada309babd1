/- LibGoes: the whole run. -/
import Derived.Test.YtdfadipfhcikdaaGreatDoorGoLaw8
namespace Go.Proofs.YtdfadipfhcikdaaGreatDoor
open Go.RowKit
set_option linter.unusedSimpArgs false
set_option linter.unusedVariables false
set_option maxRecDepth 100000

section
variable {O : Helps} {n : Nat}
set_option maxHeartbeats 64000000 in
theorem goes_run (hO : Clear O) (hN : O 9 = some numFn) (hA : ∀ (o : Tr AObj) (nx : Nat) (lg : List Nat), oCall Tryz.prog [] O 9999 11 [] ⟨o, nx, lg⟩ = some (.bool true, ⟨o, nx, lg⟩))
    (bs : List Bool) (oa : Option Addr) (hoa : oa = some ⟨0, 0, none⟩ ∨ bs = []) (og : Tr AObj) (hg : og.get 0 = some (.row (bs.map Value.bool) 0 1 false)) :
    Got (oCall Tryz.prog [] O 10000 3 [.slice oa bs.length 0] ⟨og, 1, []⟩) fun x => x.1 = .bool true := by
  rw [y_fn (rs := [.tmp 2]) (hO _ (by decide)) Tryz.func3 rfl (by kernel_rfl) rfl rfl]
  repeat (first | with_reducible (first | refine n_on ?_ | refine n_seq ?_ | refine s_else ?_ | refine n_t ?_ | refine n_gt ?_ | refine d_t ?_ | refine n_nil ?_ | refine d_nil ?_ | refine n_block ?_ | refine n_skip ?_ | refine n_bon ?_ | refine n_bback ?_ | refine n_back ?_ | refine n_out ?_ | refine n_bout rfl ?_ | refine n_bfar rfl ?_ | refine n_ret ?_ | refine n_exit ?_ | refine n_label ?_ | refine n_scope ?_ | refine n_son ?_ | refine n_sback ?_) | (with_reducible (first | apply n_region | apply d_region); (simp only [JV, JU, JW, Nat.reduceAdd, Nat.zero_add]; exact rfl)) | (with_reducible (first | apply s_op | apply n_guard | apply n_cond | apply d_guard | apply d_op | apply n_fin | apply n_finb); (simp (maxDischargeDepth := 6) only [sy3.1, zY, qG, qP, qQ, qR, qS, qT, rowAt, ↓jg, ↓ji, Nat.reduceAdd, Nat.reduceEqDiff, ne_eq, jG, Nat.reduceLT, if_true, ite_true, Int.reduceLE, Int.reduceLT, Int.reduceEq, Int.reduceNeg, Int.reduceAdd, Nat.reduceSub, if_false, ite_false, fs_3.1, kind_pure, kind_load, kind_fresh, kind_other, jg, ji, undef]; first | exact rfl | exact ⟨rfl, rfl, rfl, rfl⟩); try (with_reducible refine calmK_in ?_; decide +kernel)))
  refine s_do _ (by
    simp (maxDischargeDepth := 6) only [sy3.1, zY, qG, qP, qQ, qR, qS, qT, rowAt, ↓jg, ↓ji, Nat.reduceAdd, Nat.reduceEqDiff, ne_eq, jG, Nat.reduceLT, if_true, ite_true, Int.reduceLE, Int.reduceLT, Int.reduceEq, Int.reduceNeg, Int.reduceAdd, Nat.reduceSub, if_false, ite_false, fs_3.1]
    exact hnew_ok (n := 9997) hO 100000 (by decide) (by decide)) ?_
  rintro v1 ⟨o1, nx1, lg1⟩ ⟨_, _, _, w1, B, heq, hn1, hBi, hH1, hfr1, hmo1⟩
  cases heq
  repeat (first | with_reducible (first | refine n_on ?_ | refine n_seq ?_ | refine s_else ?_ | refine n_t ?_ | refine n_gt ?_ | refine d_t ?_ | refine n_nil ?_ | refine d_nil ?_ | refine n_block ?_ | refine n_skip ?_ | refine n_bon ?_ | refine n_bback ?_ | refine n_back ?_ | refine n_out ?_ | refine n_bout rfl ?_ | refine n_bfar rfl ?_ | refine n_ret ?_ | refine n_exit ?_ | refine n_label ?_ | refine n_scope ?_ | refine n_son ?_ | refine n_sback ?_) | (with_reducible (first | apply n_region | apply d_region); (simp only [JV, JU, JW, Nat.reduceAdd, Nat.zero_add]; exact rfl)) | (with_reducible (first | apply s_op | apply n_guard | apply n_cond | apply d_guard | apply d_op | apply n_fin | apply n_finb); (simp (maxDischargeDepth := 6) only [sy3.1, zY, qG, qP, qQ, qR, qS, qT, rowAt, ↓jg, ↓ji, Nat.reduceAdd, Nat.reduceEqDiff, ne_eq, jG, Nat.reduceLT, if_true, ite_true, Int.reduceLE, Int.reduceLT, Int.reduceEq, Int.reduceNeg, Int.reduceAdd, Nat.reduceSub, if_false, ite_false, fs_3.1, vv, kind_pure, kind_load, kind_fresh, kind_other, jg, ji, undef]; first | exact rfl | exact ⟨rfl, rfl, rfl, rfl⟩); try (with_reducible refine calmK_in ?_; decide +kernel)))
  refine s_do _ (by
    simp (maxDischargeDepth := 6) only [sy3.1, zY, qG, qP, qQ, qR, qS, qT, rowAt, ↓jg, ↓ji, Nat.reduceAdd, Nat.reduceEqDiff, ne_eq, jG, Nat.reduceLT, if_true, ite_true, Int.reduceLE, Int.reduceLT, Int.reduceEq, Int.reduceNeg, Int.reduceAdd, Nat.reduceSub, if_false, ite_false, fs_3.1]
    exact table_ok (n := 9994) hO (hH1.more (by omega) fun _ _ => rfl) (good0 (by decide) (by decide)) (by decide) (by decide) (by decide)) ?_
  rintro v2 ⟨o2, nx2, lg2⟩ ⟨_, _, _, w2, B2, heq, hn2, hH2, hB2, hfr2, hmo2, _⟩
  rw [hsG_new] at heq hH2
  cases heq
  repeat (first | with_reducible (first | refine n_on ?_ | refine n_seq ?_ | refine s_else ?_ | refine n_t ?_ | refine n_gt ?_ | refine d_t ?_ | refine n_nil ?_ | refine d_nil ?_ | refine n_block ?_ | refine n_skip ?_ | refine n_bon ?_ | refine n_bback ?_ | refine n_back ?_ | refine n_out ?_ | refine n_bout rfl ?_ | refine n_bfar rfl ?_ | refine n_ret ?_ | refine n_exit ?_ | refine n_label ?_ | refine n_scope ?_ | refine n_son ?_ | refine n_sback ?_) | (with_reducible (first | apply n_region | apply d_region); (simp only [JV, JU, JW, Nat.reduceAdd, Nat.zero_add]; exact rfl)) | (with_reducible (first | apply s_op | apply n_guard | apply n_cond | apply d_guard | apply d_op | apply n_fin | apply n_finb); (simp (maxDischargeDepth := 6) only [sy3.1, zY, qG, qP, qQ, qR, qS, qT, rowAt, ↓jg, ↓ji, Nat.reduceAdd, Nat.reduceEqDiff, ne_eq, jG, Nat.reduceLT, if_true, ite_true, Int.reduceLE, Int.reduceLT, Int.reduceEq, Int.reduceNeg, Int.reduceAdd, Nat.reduceSub, if_false, ite_false, fs_3.1, vv, kind_pure, kind_load, kind_fresh, kind_other, jg, ji, undef]; first | exact rfl | exact ⟨rfl, rfl, rfl, rfl⟩); try (with_reducible refine calmK_in ?_; decide +kernel)))
  have hw1 : ∀ x, nx1 ≤ x → w1 x = 0 := fun x hx => by
    by_cases e : w1 x = 0
    · exact e
    · have := hH1.wlt x e; omega
  have h7 := hfr2 (nx1 + 7) (by omega) (hw1 _ (by omega))
  have h0 := hfr2 0 (by omega) (hfr1 0 (by omega)).2
  refine (go_loop1 hO (bs := bs) (oa := oa) (bi := B.i) (b5 := nx1 + 7) ⟨_, _, _, w2, B2, none, rfl, ⟨hH2.keep (by omega) (fun x hx => by have := hH2.wlt x hx; omega) fun x hx => ⟨?_, rfl⟩, hB2, h0.2, ?_, h7.2, by omega, by omega, ?_, .inl ⟨rfl, rfl⟩⟩, ⟨?_, ?_, ?_, ?_, ?_, ?_, ?_⟩⟩ hoa).mono ?_
  rotate_left 10
  · rintro s ⟨e3, H3, rfl, S⟩
    have hm : min bs.length 20 ≤ 20 := by omega
    have hkl := kOf_len bs (min bs.length 20)
    have hrl := rOf_le bs (min bs.length 20)
    refine (go_mid hO hN S (fun e4 H4 M => go_two hO (kOf_nodup _ _) (by omega) M fun v e5 H5 M5 => go_mid2 hO hN M5 fun e6 H6 M6 => (go_tail (res := []) (e0 := H6) hO hA (rOf_out _ _) (fun r hr => rOf_in hr) (by omega) (by omega) M6).mono fun s h => ?_) : Got (rCode Tryz.prog (oCall Tryz.prog [] O 9999) 9999 (goR1 Tryz.f3) _ _) _)
    obtain ⟨_, e7, H7⟩ := s
    obtain ⟨rfl, h2⟩ := h
    repeat (first | with_reducible (first | refine n_on ?_ | refine n_seq ?_ | refine s_else ?_ | refine n_t ?_ | refine n_gt ?_ | refine d_t ?_ | refine n_nil ?_ | refine d_nil ?_ | refine n_block ?_ | refine n_skip ?_ | refine n_bon ?_ | refine n_bback ?_ | refine n_back ?_ | refine n_out ?_ | refine n_bout rfl ?_ | refine n_bfar rfl ?_ | refine n_ret ?_ | refine n_exit ?_ | refine n_label ?_ | refine n_scope ?_ | refine n_son ?_ | refine n_sback ?_) | (with_reducible (first | apply n_region | apply d_region); (simp only [JV, JU, JW, Nat.reduceAdd, Nat.zero_add]; exact rfl)) | (with_reducible (first | apply s_op | apply n_guard | apply n_cond | apply d_guard | apply d_op | apply n_fin | apply n_finb); (simp (maxDischargeDepth := 6) only [sy3.1, zY, qG, qP, qQ, qR, qS, qT, rowAt, ↓jg, ↓ji, Nat.reduceAdd, Nat.reduceEqDiff, ne_eq, jG, Nat.reduceLT, if_true, ite_true, Int.reduceLE, Int.reduceLT, Int.reduceEq, Int.reduceNeg, Int.reduceAdd, Nat.reduceSub, if_false, ite_false, fs_3.1, h2, kind_pure, kind_load, kind_fresh, kind_other, jg, ji, undef]; first | exact rfl | exact ⟨rfl, rfl, rfl, rfl⟩); try (with_reducible refine calmK_in ?_; decide +kernel)))
    exact leave_fst _ _ _
  · have hne : x ≠ nx1 + 7 := fun e => hx (by rw [e]; exact h7.2)
    (repeat (first | rw [qE] | rw [qF _ _ _ _ (by omega)]))
  · (repeat (first | rw [qE] | rw [qF _ _ _ _ (by omega)])); rw [h0.1, (hfr1 0 (by omega)).1]; exact hg
  · (repeat (first | rw [qE] | rw [qF _ _ _ _ (by omega)]))
  all_goals simp only [qG, qC, qD, qE, qF, Tr.get_nil, ne_eq, not_false_eq_true, Nat.reduceEqDiff]
  all_goals rfl
end
end Go.Proofs.YtdfadipfhcikdaaGreatDoor
