/- Frame: one round of the law. -/
import Derived.Test.YtckahbnkdiamjaaFrLaw2
import Derived.Test.YtckahbnkdiamjaaFrLaw3
import Derived.Test.YtckahbnkdiamjaaFrLaw4
namespace Go.Proofs.Ytckahbnkdiamjaa
open Go.RowKit
set_option linter.unusedSimpArgs false
set_option linter.unusedVariables false
set_option maxRecDepth 100000

theorem LEnv.turn {L : LB} {oa : Option Addr} {len i : Nat} {av : Value} {e e' : Tr Value} (E : LEnv L oa len av i e) (h1 : e'.get 1 = e.get 1) (h5 : e'.get 5 = e.get 5) (h10 : e'.get 10 = e.get 10) (h11 : e'.get 11 = e.get 11) (h13 : e'.get 13 = e.get 13) (h14 : e'.get 14 = e.get 14) (h15 : e'.get 15 = e.get 15) : LEnv L oa len av i e' :=
  ⟨h1.trans E.g1, h5.trans E.g5, h10.trans E.g10, h11.trans E.g11, h13.trans E.g13, h14.trans E.g14, h15.trans E.g15⟩
set_option maxHeartbeats 32000000 in
theorem law_body {zs : List (List Int)} (hzs : ∀ y ∈ zs, y.length = 3) {bx : List Bool} {L : LB} {oa : Option Addr} {i : Nat} {e : Tr Value} {H : AHeap} (h : LawSt (intCells [.i64, .i64, .i64] zs) bx L oa zs.length i i e H) (hi : i < 60) (hil : i < zs.length) (hoa : oa = some ⟨1, 0, none⟩) :
    Got (rCode Try.prog (oCall Try.prog [] O18 999) 999 (frRB Try.f4) e H) fun s => ∃ e' H', s = (Way.on, e', H') ∧ LawSt (intCells [.i64, .i64, .i64] zs) bx L oa zs.length i (i + 1) e' H' := by
  have hO := clear18
  obtain ⟨ka, kb, kc, hz⟩ := in_cells3 zs hzs hil
  have z0 := hz 0 _ rfl
  have z1 := hz 1 _ rfl
  rw [Nat.add_zero] at z0
  obtain ⟨k, hkk⟩ := Int.eq_ofNat_of_zero_le (pickI_in kb (n := 5) (by decide)).1
  have hk : k < 5 := by have := (pickI_in kb (n := 5) (by decide)).2; omega
  have hpick := fun (o : Tr AObj) (nx : Nat) (lg : List Nat) => pick_ok (n := 998) (o := o) (nx := nx) (lg := lg) hO kb 5 (by decide) (by decide)
  rw [hkk] at hpick
  generalize intCells [.i64, .i64, .i64] zs = z at h z0 z1 ⊢
  have l1 : Nat.blt i zs.length = true := by rw [Nat.blt_eq]; exact hil
  have n0 : decide (Int.ofNat i < 0) = false := decide_eq_false (by simp only [Int.ofNat_eq_natCast]; omega)
  have n1 : decide (zs.length ≤ i) = false := decide_eq_false (by omega)
  have hw1 : IntKind.i64.wrap (Int.ofNat i + 1) = Int.ofNat (i + 1) := by rw [wrap_small _ (by simp only [Int.ofNat_eq_natCast]; omega) (by simp only [Int.ofNat_eq_natCast]; omega)]; rfl
  refine y_cut (I := fun e' H' => LawSt z bx L oa zs.length i i e' H' ∧ e'.get 16 = some (.int .i64 (.ofNat k))) ?_ ?_
  · obtain ⟨o, nx, lg, w, B, hs, sa, c, sv, now, av, all, ups, rfl, M, R, hR, hal, hnl, E⟩ := h
    have g1 := E.g1; have g15 := E.g15
    rw [hoa] at g1
    have hgu := M.guest
    have hlg := M.ltg
    refine n_region (by simp only [JV, JU, JW, Nat.reduceAdd, Nat.zero_add]; exact rfl) ?_
    repeat (first | with_reducible (first | refine n_on ?_ | refine n_seq ?_ | refine s_else ?_ | refine n_t ?_ | refine n_gt ?_ | refine d_t ?_ | refine n_nil ?_ | refine d_nil ?_ | refine n_block ?_ | refine n_skip ?_ | refine n_bon ?_ | refine n_bback ?_ | refine n_back ?_ | refine n_out ?_ | refine n_bout rfl ?_ | refine n_bfar rfl ?_ | refine n_ret ?_ | refine n_exit ?_ | refine n_label ?_ | refine n_scope ?_ | refine n_son ?_ | refine n_sback ?_) | (with_reducible (first | apply n_region | apply d_region); (simp only [JV, JU, JW, Nat.reduceAdd, Nat.zero_add]; exact rfl)) | (with_reducible (first | apply s_op | apply n_guard | apply n_cond | apply d_guard | apply d_op | apply n_fin | apply n_finb); (simp (maxDischargeDepth := 6) only [sy3.1, zY, qG, qP, qQ, qR, qS, qT, rowAt, ↓jg, ↓ji, Nat.reduceAdd, Nat.reduceEqDiff, ne_eq, jG, Nat.reduceLT, if_true, ite_true, Int.reduceLE, Int.reduceLT, Int.reduceEq, Int.reduceNeg, Int.reduceAdd, Nat.reduceSub, if_false, ite_false, fs_4.1, g1, g15, hgu, hlg, z1, hpick, l1, n0, n1, indexAt, Option.isNone_none, Nat.zero_mul, Nat.one_mul, Nat.mul_one, kind_pure, kind_load, kind_fresh, kind_other, jg, ji, undef]; first | exact rfl | exact ⟨rfl, rfl, rfl, rfl⟩); try (with_reducible refine calmK_in ?_; decide +kernel)))
    refine ⟨_, _, rfl, ⟨o, _, lg, w, B, hs, sa, c, sv, now, av, all, ups, rfl, M.more (by omega) fun _ _ => rfl, R, hR, hal, hnl, E.turn ?_ ?_ ?_ ?_ ?_ ?_ ?_⟩, ?_⟩ <;> simp only [qC, qD, qE, qF, Tr.get_nil, ne_eq, not_false_eq_true, Nat.reduceEqDiff]
    try rfl
  rintro e1 H1 ⟨h1, g16⟩
  refine y_cut (I := fun e' H' => LawSt z bx L oa zs.length i i e' H' ∧ e'.get 16 = some (.int .i64 (.ofNat k)) ∧ e'.get 17 = some (.int .i64 (.ofNat (i + 1)))) ?_ ?_
  · obtain ⟨o, nx, lg, w, B, hs, sa, c, sv, now, av, all, ups, rfl, M, R, hR, hal, hnl, E⟩ := h1
    have g15 := E.g15
    refine n_region (by simp only [JV, JU, JW, Nat.reduceAdd, Nat.zero_add]; exact rfl) ?_
    repeat (first | with_reducible (first | refine n_on ?_ | refine n_seq ?_ | refine s_else ?_ | refine n_t ?_ | refine n_gt ?_ | refine d_t ?_ | refine n_nil ?_ | refine d_nil ?_ | refine n_block ?_ | refine n_skip ?_ | refine n_bon ?_ | refine n_bback ?_ | refine n_back ?_ | refine n_out ?_ | refine n_bout rfl ?_ | refine n_bfar rfl ?_ | refine n_ret ?_ | refine n_exit ?_ | refine n_label ?_ | refine n_scope ?_ | refine n_son ?_ | refine n_sback ?_) | (with_reducible (first | apply n_region | apply d_region); (simp only [JV, JU, JW, Nat.reduceAdd, Nat.zero_add]; exact rfl)) | (with_reducible (first | apply s_op | apply n_guard | apply n_cond | apply d_guard | apply d_op | apply n_fin | apply n_finb); (simp (maxDischargeDepth := 6) only [sy3.1, zY, qG, qP, qQ, qR, qS, qT, rowAt, ↓jg, ↓ji, Nat.reduceAdd, Nat.reduceEqDiff, ne_eq, jG, Nat.reduceLT, if_true, ite_true, Int.reduceLE, Int.reduceLT, Int.reduceEq, Int.reduceNeg, Int.reduceAdd, Nat.reduceSub, if_false, ite_false, fs_4.1, g15, hw1, kind_pure, kind_load, kind_fresh, kind_other, jg, ji, undef]; first | exact rfl | exact ⟨rfl, rfl, rfl, rfl⟩); try (with_reducible refine calmK_in ?_; decide +kernel)))
    refine ⟨_, _, rfl, ⟨o, _, lg, w, B, hs, sa, c, sv, now, av, all, ups, rfl, M.more (by omega) fun _ _ => rfl, R, hR, hal, hnl, E.turn ?_ ?_ ?_ ?_ ?_ ?_ ?_⟩, ?_, ?_⟩ <;> simp only [qC, qD, qE, qF, Tr.get_nil, ne_eq, not_false_eq_true, Nat.reduceEqDiff]
    try exact g16
  clear h g16
  rintro e2 H2 ⟨h2, g16, g17⟩
  refine y_cut (I := fun e' H' => LawSt z bx L oa zs.length i (i + 1) e' H') ?_ fun e' H' h' => (law_tail h' (by omega)).mono fun s hs => hs
  refine n_block ?_
  have h2' := h2
  obtain ⟨o, nx, lg, w, B, hs, sa, c, sv, now, av, all, ups, rfl, M, R, hR, hal, hnl, E⟩ := h2'
  have g1 := E.g1; have g15 := E.g15
  rw [hoa] at g1
  have hgu := M.guest
  have hlg := M.ltg
  repeat (first | with_reducible (first | refine n_on ?_ | refine n_seq ?_ | refine s_else ?_ | refine n_t ?_ | refine n_gt ?_ | refine d_t ?_ | refine n_nil ?_ | refine d_nil ?_ | refine n_block ?_ | refine n_skip ?_ | refine n_bon ?_ | refine n_bback ?_ | refine n_back ?_ | refine n_out ?_ | refine n_bout rfl ?_ | refine n_bfar rfl ?_ | refine n_ret ?_ | refine n_exit ?_ | refine n_label ?_ | refine n_scope ?_ | refine n_son ?_ | refine n_sback ?_) | (with_reducible (first | apply n_region | apply d_region); (simp only [JV, JU, JW, Nat.reduceAdd, Nat.zero_add]; exact rfl)) | (with_reducible (first | apply s_op | apply n_guard | apply n_cond | apply d_guard | apply d_op | apply n_fin | apply n_finb); (simp (maxDischargeDepth := 6) only [sy3.1, zY, qG, qP, qQ, qR, qS, qT, rowAt, ↓jg, ↓ji, Nat.reduceAdd, Nat.reduceEqDiff, ne_eq, jG, Nat.reduceLT, if_true, ite_true, Int.reduceLE, Int.reduceLT, Int.reduceEq, Int.reduceNeg, Int.reduceAdd, Nat.reduceSub, if_false, ite_false, fs_4.1, g1, g15, hgu, hlg, z0, l1, n0, n1, indexAt, Option.isNone_none, Nat.zero_mul, Nat.one_mul, Nat.mul_one, kind_pure, kind_load, kind_fresh, kind_other, jg, ji, undef]; first | exact rfl | exact ⟨rfl, rfl, rfl, rfl⟩); try (with_reducible refine calmK_in ?_; decide +kernel)))
  have next : ∀ (e' : Tr Value) (nx' : Nat), nx ≤ nx' → e'.get 1 = e2.get 1 → e'.get 5 = e2.get 5 → e'.get 10 = e2.get 10 → e'.get 11 = e2.get 11 → e'.get 13 = e2.get 13 → e'.get 14 = e2.get 14 → e'.get 15 = e2.get 15 → LawSt z bx L oa zs.length i i e' ⟨o, nx', lg⟩ := fun e' nx' hn a1 a5 a10 a11 a13 a14 a15 =>
    ⟨o, _, lg, w, B, hs, sa, c, sv, now, av, all, ups, rfl, M.more hn fun _ _ => rfl, R, hR, hal, hnl, E.turn a1 a5 a10 a11 a13 a14 a15⟩
  have fin : ∀ (s : St), (∃ e' H', s = (Way.on, e', H') ∧ LawSt z bx L oa zs.length i (i + 1) e' H') → outOf 2 (fun s => ∃ e h, s = (Way.on, e, h) ∧ LawSt z bx L oa zs.length i (i + 1) e h) s := by
    rintro _ ⟨e', H', rfl, hh⟩
    exact ⟨e', H', rfl, hh⟩
  cases h1d : decide (ka < 2) with
  | true =>
    refine (law_c1 (next _ _ (by omega) ?_ ?_ ?_ ?_ ?_ ?_ ?_) hi hk ?_ ?_).mono fin <;> simp only [qC, qD, qE, qF, Tr.get_nil, ne_eq, not_false_eq_true, Nat.reduceEqDiff, g16, g17]
  | false =>
    refine n_seq ?_
    repeat (first | with_reducible (first | refine n_on ?_ | refine n_seq ?_ | refine s_else ?_ | refine n_t ?_ | refine n_gt ?_ | refine d_t ?_ | refine n_nil ?_ | refine d_nil ?_ | refine n_block ?_ | refine n_skip ?_ | refine n_bon ?_ | refine n_bback ?_ | refine n_back ?_ | refine n_out ?_ | refine n_bout rfl ?_ | refine n_bfar rfl ?_ | refine n_ret ?_ | refine n_exit ?_ | refine n_label ?_ | refine n_scope ?_ | refine n_son ?_ | refine n_sback ?_) | (with_reducible (first | apply n_region | apply d_region); (simp only [JV, JU, JW, Nat.reduceAdd, Nat.zero_add]; exact rfl)) | (with_reducible (first | apply s_op | apply n_guard | apply n_cond | apply d_guard | apply d_op | apply n_fin | apply n_finb); (simp (maxDischargeDepth := 6) only [sy3.1, zY, qG, qP, qQ, qR, qS, qT, rowAt, ↓jg, ↓ji, Nat.reduceAdd, Nat.reduceEqDiff, ne_eq, jG, Nat.reduceLT, if_true, ite_true, Int.reduceLE, Int.reduceLT, Int.reduceEq, Int.reduceNeg, Int.reduceAdd, Nat.reduceSub, if_false, ite_false, fs_4.1, g1, g15, hgu, hlg, z0, l1, n0, n1, indexAt, Option.isNone_none, Nat.zero_mul, Nat.one_mul, Nat.mul_one, kind_pure, kind_load, kind_fresh, kind_other, jg, ji, undef]; first | exact rfl | exact ⟨rfl, rfl, rfl, rfl⟩); try (with_reducible refine calmK_in ?_; decide +kernel)))
    cases h2d : decide (ka < 4) with
    | true =>
      refine (law_c2 (next _ _ (by omega) ?_ ?_ ?_ ?_ ?_ ?_ ?_) hi hk ?_ ?_).mono fin <;> simp only [qC, qD, qE, qF, Tr.get_nil, ne_eq, not_false_eq_true, Nat.reduceEqDiff, g16, g17]
    | false =>
      refine (law_c3 (next _ _ (by omega) ?_ ?_ ?_ ?_ ?_ ?_ ?_) hi hk ?_ ?_).mono fin <;> simp only [qC, qD, qE, qF, Tr.get_nil, ne_eq, not_false_eq_true, Nat.reduceEqDiff, g16, g17]
end Go.Proofs.Ytckahbnkdiamjaa
