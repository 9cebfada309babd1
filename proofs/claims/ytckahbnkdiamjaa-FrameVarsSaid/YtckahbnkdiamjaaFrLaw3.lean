/- Frame: the law's round that makes a function. -/
import Derived.Test.YtckahbnkdiamjaaFrLaw1
namespace Go.Proofs.Ytckahbnkdiamjaa
open Go.RowKit
set_option linter.unusedSimpArgs false
set_option linter.unusedVariables false
set_option maxRecDepth 100000

theorem cut_first {l : List Value} {k n : Nat} {a : Value} {t : List Value} (h : cut l k n = some (a :: t)) : l[k]? = some a := by
  unfold cut at h
  simp only [cond_eq_ite] at h
  split at h
  · cases h' : (l.drop k).take n with
    | nil => rw [h'] at h; cases h
    | cons x y =>
      rw [h'] at h; cases h
      have : ((l.drop k).take n)[0]? = some a := by rw [h']; rfl
      rw [List.getElem?_take] at this
      split at this
      · rw [List.getElem?_drop, Nat.add_zero] at this; exact this
      · cases this
  · cases h
set_option maxHeartbeats 32000000 in
theorem law_c3 {z : List Value} {bx : List Bool} {L : LB} {oa : Option Addr} {len i k : Nat} {e : Tr Value} {H : AHeap} (h : LawSt z bx L oa len i i e H) (hi : i < 60) (hk : k < 5) (g16 : e.get 16 = some (.int .i64 (.ofNat k))) (g17 : e.get 17 = some (.int .i64 (.ofNat (i + 1)))) :
    Got (rCode Try.prog (oCall Try.prog [] O18 999) 999 (frC3 Try.f4) e H) fun s => ∃ e' H', s = (Way.on, e', H') ∧ LawSt z bx L oa len i (i + 1) e' H' := by
  have hO := clear18
  obtain ⟨o, nx, lg, w, B, hs, sa, c, sv, now, av, all, ups, rfl, M, R, hR, hal, hnl, E⟩ := h
  have g1 := E.g1; have g5 := E.g5; have g10 := E.g10; have g11 := E.g11; have g13 := E.g13; have g14 := E.g14; have g15 := E.g15
  rw [← M.hB] at g5
  have hprg := M.prg
  have hltt := M.ltt
  have hrow := M.prog.row
  have hltp := M.prog.ltp
  have k1 := M.mks.d2.2.2.2.1
  have k2 := k1.symm
  obtain ⟨z1, z2, z3, z4, z5, z6, z7⟩ := M.mks.zero
  have l12 : Nat.blt 1 2 = true := rfl
  refine n_seq ?_
  repeat (first | with_reducible (first | refine n_on ?_ | refine n_seq ?_ | refine s_else ?_ | refine n_t ?_ | refine n_gt ?_ | refine d_t ?_ | refine n_nil ?_ | refine d_nil ?_ | refine n_block ?_ | refine n_skip ?_ | refine n_bon ?_ | refine n_bback ?_ | refine n_back ?_ | refine n_out ?_ | refine n_bout rfl ?_ | refine n_bfar rfl ?_ | refine n_ret ?_ | refine n_exit ?_ | refine n_label ?_ | refine n_scope ?_ | refine n_son ?_ | refine n_sback ?_) | (with_reducible (first | apply n_region | apply d_region); (simp only [JV, JU, JW, Nat.reduceAdd, Nat.zero_add]; exact rfl)) | (with_reducible (first | apply s_op | apply n_guard | apply n_cond | apply d_guard | apply d_op | apply n_fin | apply n_finb); (simp (maxDischargeDepth := 6) only [sy3.1, zY, qG, qP, qQ, qR, qS, qT, rowAt, ↓jg, ↓ji, Nat.reduceAdd, Nat.reduceEqDiff, ne_eq, jG, Nat.reduceLT, if_true, ite_true, Int.reduceLE, Int.reduceLT, Int.reduceEq, Int.reduceNeg, Int.reduceAdd, Nat.reduceSub, if_false, ite_false, fs_4.1, g1, g5, g10, g11, g13, g14, g15, g16, g17, hprg, hltt, hrow, hltp, k1, k2, st_buildSliceV, build_up, l12, indexAt, Option.isNone_none, Nat.zero_mul, Nat.one_mul, Nat.mul_one, kind_pure, kind_load, kind_fresh, kind_other, jg, ji, undef]; first | exact rfl | exact ⟨rfl, rfl, rfl, rfl⟩); try (with_reducible refine calmK_in ?_; decide +kernel)))
  obtain ⟨O1, hO1⟩ : ∃ O1, O1 = ((o.put (nx + 4) (some (.row [.bool true, .int .i64 (Int.ofNat k)] 67 2 true))).put L.kp (some (.row [.int .i64 0, .bool false, .int .i64 5, .slice (some ⟨L.kb, 0, none⟩) 5 0, .slice none 0 0, .slice (some ⟨L.ks, 0, none⟩) 1 2, .slice none 0 0, .int .i64 0, .int .i64 0, .bool false, .int .i64 0, .slice none 0 0, .slice (some ⟨nx + 4, 0, none⟩) 1 2, .slice (some ⟨L.ks, 0, none⟩) 1 2, .slice none 0 0, .int .i64 0] 73 8 true))) := ⟨_, rfl⟩
  rw [← hO1]
  have M1 : LawIn z bx L O1 (nx + 18) w B hs sa c sv now av all (.slice (some ⟨nx + 4, 0, none⟩) 1 2) := M.turnUps (by omega) (by rw [hO1, qE]) fun x hx hne => by rw [hO1]; (repeat (first | rw [qE] | rw [qF _ _ _ _ (by omega)]))
  have hup : O1.get (nx + 4) = some (.row [.bool true, .int .i64 (Int.ofNat k)] 67 2 true) := by rw [hO1]; (repeat (first | rw [qE] | rw [qF _ _ _ _ (by omega)]))
  clear hO1
  clear hrow hprg hltt hltp
  have hltf := M.fr.ltf
  obtain ⟨zf, hfr⟩ := M1.fr.row
  have r3 := hR.count; have r4 := hR.made; have r5 := hR.sizes
  repeat (first | with_reducible (first | refine n_on ?_ | refine n_seq ?_ | refine s_else ?_ | refine n_t ?_ | refine n_gt ?_ | refine d_t ?_ | refine n_nil ?_ | refine d_nil ?_ | refine n_block ?_ | refine n_skip ?_ | refine n_bon ?_ | refine n_bback ?_ | refine n_back ?_ | refine n_out ?_ | refine n_bout rfl ?_ | refine n_bfar rfl ?_ | refine n_ret ?_ | refine n_exit ?_ | refine n_label ?_ | refine n_scope ?_ | refine n_son ?_ | refine n_sback ?_) | (with_reducible (first | apply n_region | apply d_region); (simp only [JV, JU, JW, Nat.reduceAdd, Nat.zero_add]; exact rfl)) | (with_reducible (first | apply s_op | apply n_guard | apply n_cond | apply d_guard | apply d_op | apply n_fin | apply n_finb); (simp (maxDischargeDepth := 6) only [sy3.1, zY, qG, qP, qQ, qR, qS, qT, rowAt, ↓jg, ↓ji, Nat.reduceAdd, Nat.reduceEqDiff, ne_eq, jG, Nat.reduceLT, if_true, ite_true, Int.reduceLE, Int.reduceLT, Int.reduceEq, Int.reduceNeg, Int.reduceAdd, Nat.reduceSub, if_false, ite_false, fs_4.1, g1, g5, g10, g11, g13, g14, g15, g16, g17, frC, hfr, hltf, cut_twelve, kind_pure, kind_load, kind_fresh, kind_other, jg, ji, undef]; first | exact rfl | exact ⟨rfl, rfl, rfl, rfl⟩); try (with_reducible refine calmK_in ?_; decide +kernel)))
  refine s_do _ (by
    simp (maxDischargeDepth := 6) only [sy3.1, zY, qG, qP, qQ, qR, qS, qT, rowAt, ↓jg, ↓ji, Nat.reduceAdd, Nat.reduceEqDiff, ne_eq, jG, Nat.reduceLT, if_true, ite_true, Int.reduceLE, Int.reduceLT, Int.reduceEq, Int.reduceNeg, Int.reduceAdd, Nat.reduceSub, if_false, ite_false, fs_4.1, g5]
    exact fmake_ok (n := 989) hO M1.heap R.good M1.prog hup (by omega) M1.fr hk (by rw [R.own]; decide) (by omega) (by omega) (by omega)) ?_
  rintro v1 ⟨o2, nx2, lg2⟩ ⟨_, _, _, w2, B2, heq, b1, b2, b3, b4, b5, b6⟩
  cases heq
  have hfk := (b4 L.kf (by omega) z4).1
  have hsk := (b4 sa (by have := M.fr.lts; omega) z7).1
  have hlts := M1.fr.lts
  have M2 : LawIn z bx L o2 nx2 w2 B2 (makeF hs (sv.getD k (0, 0))).1 sa c sv now av all (.slice (some ⟨nx + 4, 0, none⟩) 1 2) := M1.act (Nat.le_refl _) b1 b2 (b3.trans M.hB) (M1.fr.keep b1 hfk hsk) (.inl rfl) (b4 sa hlts z7).2 fun x hx hw => ⟨(b4 x hx hw).2, fun _ => (b4 x hx hw).1⟩
  have hwn : w (nx + 15) = 0 := by
    false_or_by_contra
    rename_i hw
    have := M.heap.wlt _ hw
    omega
  have hw2n : w2 (nx + 15) = 0 := (b4 (nx + 15) (by omega) hwn).2
  rw [← hfk] at hfr
  have hltf2 := M2.fr.ltf
  have hlts2 := M2.fr.lts
  obtain ⟨rests, hsr⟩ := M2.fr.slots
  have hls := M.fr.len
  have hcu : (vvCells sv ++ rests)[k * 2]? = some (.int .u8 (sv.getD k (0, 0)).1) := by
    have := vv_cut (l := sv) (k := k) (by omega) rests
    have h0 := cut_first this
    rw [h0]
    simp [List.getD, show k < sv.length from by omega]
  have nn1 : (!(true == true)) = false := rfl
  have nn2 : (!(false == false)) = false := rfl
  have ltf0 := M.fr.ltf
  have lts0 := M.fr.lts
  have q1 : L.kf ≠ nx + 15 := by omega
  have q2 := q1.symm
  have q3 : sa ≠ nx + 15 := by omega
  have q4 := q3.symm
  have q5 : nx + 15 < nx2 := by omega
  have ltn0 := M.ltn
  have q6 : L.kn ≠ nx + 15 := by omega
  have q7 := q6.symm
  have hltn2 := M2.ltn
  have hnow := M2.now
  have hnk : (now.map (Value.int .i64))[k]? = some (.int .i64 (now.getD k 0)) := by
    rw [List.getElem?_map, List.getElem?_eq_getElem (by rw [R.ln]; exact hk)]
    simp [List.getD, show k < now.length from by rw [R.ln]; exact hk]
  have d0 : decide (Int.ofNat k < 0) = false := decide_eq_false (by simp only [Int.ofNat_eq_natCast]; omega)
  have d5 : decide (5 ≤ k) = false := decide_eq_false (by omega)
  have l5 : Nat.blt k 5 = true := by rw [Nat.blt_eq]; exact hk
  by_cases hl : bx.getD k false = true ∧ now.getD k 0 ≠ 0
  · obtain ⟨S1, S2, S3⟩ := R.make hR (by omega) hk hl.1 hl.2
    have h9 : decide ((sv.getD k (0, 0)).1 = 9) = true := decide_eq_true ((R.is9 hk).2 hl)
    rw [S3]
    generalize makeF hs (sv.getD k (0, 0)) = mk at M2 S1 S2 ⊢
    have M2b := M.beside (o3 := (((o2.put (nx + 15) (some (.row [.int .u8 0, .int .i64 0] 41 0 true))).put (nx + 15) (some (.row [.int .u8 mk.2.1.1, .int .i64 0] 41 0 true))).put (nx + 15) (some (.row [.int .u8 mk.2.1.1, .int .i64 mk.2.1.2] 41 0 true)))) M2 (y := nx + 15) (by omega) hw2n (Nat.le_refl _) fun x hx hne => by (repeat (first | rw [qE] | rw [qF _ _ _ _ (by omega)]))
    rcases M2.mds with ⟨hav, hnil⟩ | ⟨j, hav, hj, hwj, hjne, hrow⟩
    · subst hnil
      rw [hav] at g14
      have happ : ∀ (o : Tr AObj) (nx : Nat) (lg : List Nat) (fid q : Nat), o.get q = some (.row [.int .u8 mk.2.1.1, .int .i64 mk.2.1.2, .int .i64 (Int.ofNat k), .int .i64 (now.getD k 0), .bool false] 65 5 true) → _ := mapp_nil ⟨mk.2.1, Int.ofNat k, now.getD k 0, false⟩
      repeat (first | with_reducible (first | refine n_on ?_ | refine n_seq ?_ | refine s_else ?_ | refine n_t ?_ | refine n_gt ?_ | refine d_t ?_ | refine n_nil ?_ | refine d_nil ?_ | refine n_block ?_ | refine n_skip ?_ | refine n_bon ?_ | refine n_bback ?_ | refine n_back ?_ | refine n_out ?_ | refine n_bout rfl ?_ | refine n_bfar rfl ?_ | refine n_ret ?_ | refine n_exit ?_ | refine n_label ?_ | refine n_scope ?_ | refine n_son ?_ | refine n_sback ?_) | (with_reducible (first | apply n_region | apply d_region); (simp only [JV, JU, JW, Nat.reduceAdd, Nat.zero_add]; exact rfl)) | (with_reducible (first | apply s_op | apply n_guard | apply n_cond | apply d_guard | apply d_op | apply n_fin | apply n_finb); (simp (maxDischargeDepth := 6) only [sy3.1, zY, qG, qP, qQ, qR, qS, qT, rowAt, ↓jg, ↓ji, Nat.reduceAdd, Nat.reduceEqDiff, ne_eq, jG, Nat.reduceLT, if_true, ite_true, Int.reduceLE, Int.reduceLT, Int.reduceEq, Int.reduceNeg, Int.reduceAdd, Nat.reduceSub, if_false, ite_false, fs_4.1, g1, g10, g11, g13, g14, g15, g16, g17, frC, hfr, hltf2, q1, q2, q3, q4, q5, nn1, nn2, q6, q7, hltn2, hnow, hnk, hsr, hlts2, hcu, h9, d0, d5, l5, vv, indexAt, Option.isNone_none, Nat.zero_mul, Nat.one_mul, Nat.mul_one, st_buildSliceV, build_md, happ, kind_pure, kind_load, kind_fresh, kind_other, jg, ji, undef]; first | exact rfl | exact ⟨rfl, rfl, rfl, rfl⟩); try (with_reducible refine calmK_in ?_; decide +kernel)))
      refine ⟨_, _, rfl, _, _, _, _, _, _, _, _, _, _, _, _, _, rfl, M2b.mdNew (j := nx2 + 22) (by omega) (by omega) (by omega) (qE _ _ _) (fun x hx hne => by (repeat (first | rw [qE] | rw [qF _ _ _ _ (by omega)]))), S1, by rw [Int.natCast_add]; exact S2, by show 1 ≤ i + 1; omega, fun j hj => by have := hnl j hj; omega, ⟨?_, ?_, ?_, ?_, ?_, ?_, ?_⟩⟩ <;> simp only [qC, qD, qE, qF, Tr.get_nil, ne_eq, not_false_eq_true, Nat.reduceEqDiff] <;> first | exact E.g1 | exact E.g5 | exact E.g10 | exact E.g11 | exact E.g13 | exact E.g15 | rfl | (rw [List.length_append]; rfl)
    · rw [hav] at g14
      have happ : ∀ (o : Tr AObj) (nx : Nat) (lg : List Nat) (fid q j : Nat), o.get q = some (.row [.int .u8 mk.2.1.1, .int .i64 mk.2.1.2, .int .i64 (Int.ofNat k), .int .i64 (now.getD k 0), .bool false] 65 5 true) → o.get j = some (.row (mdCells all) 65 5 true) → _ := mapp_row ⟨mk.2.1, Int.ofNat k, now.getD k 0, false⟩ (l := all) rfl (by omega)
      have j1 : j ≠ nx + 15 := fun e => by
        rcases M.mds with ⟨e2, _⟩ | ⟨j2, e2, hj2, _⟩
        · rw [hav] at e2; cases e2
        · rw [hav] at e2; cases e2; omega
      have j2 := j1.symm
      repeat (first | with_reducible (first | refine n_on ?_ | refine n_seq ?_ | refine s_else ?_ | refine n_t ?_ | refine n_gt ?_ | refine d_t ?_ | refine n_nil ?_ | refine d_nil ?_ | refine n_block ?_ | refine n_skip ?_ | refine n_bon ?_ | refine n_bback ?_ | refine n_back ?_ | refine n_out ?_ | refine n_bout rfl ?_ | refine n_bfar rfl ?_ | refine n_ret ?_ | refine n_exit ?_ | refine n_label ?_ | refine n_scope ?_ | refine n_son ?_ | refine n_sback ?_) | (with_reducible (first | apply n_region | apply d_region); (simp only [JV, JU, JW, Nat.reduceAdd, Nat.zero_add]; exact rfl)) | (with_reducible (first | apply s_op | apply n_guard | apply n_cond | apply d_guard | apply d_op | apply n_fin | apply n_finb); (simp (maxDischargeDepth := 6) only [sy3.1, zY, qG, qP, qQ, qR, qS, qT, rowAt, ↓jg, ↓ji, Nat.reduceAdd, Nat.reduceEqDiff, ne_eq, jG, Nat.reduceLT, if_true, ite_true, Int.reduceLE, Int.reduceLT, Int.reduceEq, Int.reduceNeg, Int.reduceAdd, Nat.reduceSub, if_false, ite_false, fs_4.1, g1, g10, g11, g13, g14, g15, g16, g17, frC, hfr, hltf2, q1, q2, q3, q4, q5, nn1, nn2, q6, q7, hltn2, hnow, hnk, hsr, hlts2, hcu, h9, d0, d5, l5, vv, indexAt, Option.isNone_none, Nat.zero_mul, Nat.one_mul, Nat.mul_one, st_buildSliceV, build_md, happ, hrow, hj, j1, j2, kind_pure, kind_load, kind_fresh, kind_other, jg, ji, undef]; first | exact rfl | exact ⟨rfl, rfl, rfl, rfl⟩); try (with_reducible refine calmK_in ?_; decide +kernel)))
      refine ⟨_, _, rfl, _, _, _, _, _, _, _, _, _, _, _, _, _, rfl, M2b.mdNew (j := nx2 + 22) (by omega) (by omega) (by omega) (qE _ _ _) (fun x hx hne => by
        have : x ≠ j := fun e => hne _ (by rw [e]; exact hav)
        (repeat (first | rw [qE] | rw [qF _ _ _ _ (by omega)]))), S1, by rw [Int.natCast_add]; exact S2, by rw [List.length_append]; show _ + 1 ≤ _; omega, fun j hj => by have := hnl j hj; omega, ⟨?_, ?_, ?_, ?_, ?_, ?_, ?_⟩⟩ <;> simp only [qC, qD, qE, qF, Tr.get_nil, ne_eq, not_false_eq_true, Nat.reduceEqDiff] <;> first | exact E.g1 | exact E.g5 | exact E.g10 | exact E.g11 | exact E.g13 | exact E.g15 | rfl | (rw [List.length_append]; rfl)
  · have hm := R.nomake hk hl
    have h9 : decide ((sv.getD k (0, 0)).1 = 9) = false := decide_eq_false fun e => hl ((R.is9 hk).1 e)
    rw [hm] at M2 ⊢
    repeat (first | with_reducible (first | refine n_on ?_ | refine n_seq ?_ | refine s_else ?_ | refine n_t ?_ | refine n_gt ?_ | refine d_t ?_ | refine n_nil ?_ | refine d_nil ?_ | refine n_block ?_ | refine n_skip ?_ | refine n_bon ?_ | refine n_bback ?_ | refine n_back ?_ | refine n_out ?_ | refine n_bout rfl ?_ | refine n_bfar rfl ?_ | refine n_ret ?_ | refine n_exit ?_ | refine n_label ?_ | refine n_scope ?_ | refine n_son ?_ | refine n_sback ?_) | (with_reducible (first | apply n_region | apply d_region); (simp only [JV, JU, JW, Nat.reduceAdd, Nat.zero_add]; exact rfl)) | (with_reducible (first | apply s_op | apply n_guard | apply n_cond | apply d_guard | apply d_op | apply n_fin | apply n_finb); (simp (maxDischargeDepth := 6) only [sy3.1, zY, qG, qP, qQ, qR, qS, qT, rowAt, ↓jg, ↓ji, Nat.reduceAdd, Nat.reduceEqDiff, ne_eq, jG, Nat.reduceLT, if_true, ite_true, Int.reduceLE, Int.reduceLT, Int.reduceEq, Int.reduceNeg, Int.reduceAdd, Nat.reduceSub, if_false, ite_false, fs_4.1, g1, g10, g11, g13, g14, g15, g16, g17, frC, hfr, hltf2, q1, q2, q3, q4, q5, nn1, nn2, q6, q7, hltn2, hnow, hnk, hsr, hlts2, hcu, h9, d0, d5, l5, vv, indexAt, Option.isNone_none, Nat.zero_mul, Nat.one_mul, Nat.mul_one, kind_pure, kind_load, kind_fresh, kind_other, jg, ji, undef]; first | exact rfl | exact ⟨rfl, rfl, rfl, rfl⟩); try (with_reducible refine calmK_in ?_; decide +kernel)))
    refine ⟨_, _, rfl, _, _, _, _, _, _, _, _, _, _, _, _, _, rfl, (M.beside M2 (y := nx + 15) (by omega) hw2n (by omega) fun x hx hne => by (repeat (first | rw [qE] | rw [qF _ _ _ _ (by omega)]))), R, by rw [Int.natCast_add]; exact hR.up, by omega, fun j hj => by have := hnl j hj; omega, ⟨?_, ?_, ?_, ?_, ?_, ?_, ?_⟩⟩ <;> simp only [qC, qD, qE, qF, Tr.get_nil, ne_eq, not_false_eq_true, Nat.reduceEqDiff] <;> first | exact E.g1 | exact E.g5 | exact E.g10 | exact E.g11 | exact E.g13 | exact E.g14 | exact E.g15
end Go.Proofs.Ytckahbnkdiamjaa
