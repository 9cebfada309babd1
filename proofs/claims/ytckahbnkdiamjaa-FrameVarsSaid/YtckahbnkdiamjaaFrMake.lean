/- Frame: Make of the law's inner function, on the abstract machine, where all is right. -/
import Derived.Test.YtckahbnkdiamjaaFrUp
namespace Go.Proofs.Ytckahbnkdiamjaa
open Go.RowKit
set_option linter.unusedSimpArgs false
set_option linter.unusedVariables false
set_option maxRecDepth 100000

theorem y_round {P : Program} {call : CallFn} {fuel : Nat} {c : Code} {env : Tr Value} {H : AHeap} {Q : Way × Tr Value × AHeap → Prop} {f : Nat} (h : Got (rCode P call fuel c env H) (onTo Q fun e h => Got (loopN (rCode P call fuel c) Way.isOn f e h) Q)) : Got (loopN (rCode P call fuel c) Way.isOn (f + 1) env H) Q := by
  obtain ⟨⟨w, e, h1⟩, hr, hq⟩ := h
  simp only [loopN, hr]
  cases w with
  | on => simp only [Way.isOn, cond]; exact hq
  | out i => simp only [Way.isOn, cond, qL]; exact hq
  | back => simp only [Way.isOn, cond, qL]; exact hq
theorem build_vv1 : ∀ (a b : Int) fid H, buildSliceV Try.prog 26 1 [(0, .agg #[.int .u8 a, .int .i64 b])] fid H = some (.slice (some ⟨fid, 0, none⟩) 1 2, newRowA fid [.int .u8 a, .int .i64 b] 41 2 H) := fun a b fid H => by kernel_rfl
theorem vapp_one {a b : Value} : ∀ (o : Tr AObj) (nx : Nat) (lg : List Nat) (fid q : Nat), o.get q = some (.row [a, b] 41 2 true) →
    aAppend Try.prog 26 26 (.slice none 0 0) (.slice (some ⟨q, 0, none⟩) 1 2) fid ⟨o, nx, lg⟩ = some (.slice (some ⟨fid, 0, none⟩) 1 0, ⟨o.put fid (some (.row [a, b] 41 2 true)), nx, lg⟩) := by
  intro o nx lg fid q hq
  have hadd : addCells 2 (.slice (some ⟨q, 0, none⟩) 1 2) ⟨o, nx, lg⟩ = some (0 + 1, [a, b]) := by
    simp only [addCells, qH, hq]; rfl
  rw [app_none app_vv hadd rfl]; rfl
/-- Make of the inner function: its one cell stands in the frame's slot -/
def makeF (hs : HS) (v : VV) : HS × VV × Int := if v.1 = 9 ∧ (findO hs v).isSome = true then funcO hs 1 [v] else (hs, (0, 0), 154)
section
variable {O : Helps} {n : Nat} {o : Tr AObj} {nx : Nat} {lg : List Nat} {w : Nat → Nat} {B : HB} {hs : HS} {kp kb ks : Nat} {bx : List Bool} {cl : Int} {sa c : Nat}
set_option maxHeartbeats 32000000 in
theorem fmake_ok (hO : Clear O) (hh : HeapIn o nx w B hs) (hG : HGood hs) {ku cu : Nat} (h : ProgIn o nx kp kb ks bx (.slice (some ⟨ku, 0, none⟩) 1 cu)) {k : Nat} {zup : Nat} (hu : o.get ku = some (.row [.bool true, .int .i64 (.ofNat k)] 67 zup true)) (hku : ku < nx) {kf : Nat} {sv : List VV} (hf : FrIn o nx kf cl sa c sv) (hk : k < 5) (hl : (cellsO hs (6, cl)).length ≤ 1000000) (hc : hs.pool.count < 65536) (hmade : hs.made < 4611686018427387904) (hn : hs.pool.sizes.length < n + 2) :
    Got (oCall Try.prog [] O (n + 10) 11 [pV kp, .pointer (some ⟨B.i, 0, none⟩), frV cl sa c, .int .i64 1] ⟨o, nx, lg⟩) (HTo o nx lg w B hs (makeF hs (sv.getD k (0, 0))).1 (.tuple #[vv (makeF hs (sv.getD k (0, 0))).2.1, .int .i64 (makeF hs (sv.getD k (0, 0))).2.2])) := by
  have hrow := h.row
  have hltp := h.ltp
  have hls := hf.len
  have hlts := hf.lts
  obtain ⟨rests, hsr⟩ := hf.slots
  have hR := fun (X Y Z : AObj) (q : Nat) (L : List Nat) => fright_ok (n := n + 8) (lg := L) (cl := cl) (sa := sa) (c := c) hO (h.more (o' := ((o.put nx (some X)).put (nx + 1) (some Y)).put (nx + 2) (some Z)) (nx' := nx + (q + 3)) (by omega) fun x hx => by (repeat (first | rw [qE] | rw [qF _ _ _ _ (by omega)]))) hf.cl1
  have hcell := fun (O1 : Tr AObj) (N1 : Nat) (L1 : List Nat) (hN : nx ≤ N1) (hold : ∀ x, x < nx → O1.get x = o.get x) => fcell_ok (n := n + 4) (cl := cl) (a0 := .int .u8 1) (a1 := .int .i64 0) (a3 := .int .i64 0) (a4 := .slice (some ⟨sa, 0, none⟩) 5 c) (a5 := .slice none 0 0) (a6 := .slice none 0 0) (a7 := .slice none 0 0) (a8 := .int .i64 0) (a9 := .slice none 0 0) (a10 := .bool false) (a11 := .int .i64 0) (o := O1) (nx := N1) (lg := L1) hO (hh.more hN hold) (.ofNat k) hl
  have hS := fun (O1 : Tr AObj) (N1 : Nat) (L1 : List Nat) (hN : nx + 2 ≤ N1) (hold : ∀ x, x < nx → O1.get x = o.get x) (h1 : O1.get (nx + 1) = some (.row (frC cl sa c) 29 0 true)) => fslot_ok (n := n + 7) (o := O1) (nx := N1) (lg := L1) hO (h.more (by omega) hold) (kf := nx + 1) (sv := sv) (cl := cl) (sa := sa) (c := c) ⟨by omega, by omega, by omega, ⟨0, h1⟩, ⟨rests, (hold sa hlts).trans hsr⟩, hls, hf.cl1⟩ hk
  have hHas := fun (O1 : Tr AObj) (N1 : Nat) (L1 : List Nat) (hN : nx ≤ N1) (hold : ∀ x, x < nx → O1.get x = o.get x) => has_ok (n := n + 6) (o := O1) (nx := N1) (lg := L1) hO (hh.more hN hold) (sv.getD k (0, 0))
  have l1 : decide (Int.ofNat 2 ≤ 1) = false := by decide
  have l2 : decide ((1 : Int) < 0) = false := by decide
  have l3 : Nat.blt 1 2 = true := rfl
  have l4 : decide ((0 : Int) < Int.ofNat 1) = true := by decide
  have l5 : Nat.blt 0 1 = true := rfl
  have hwnx : ∀ x, nx ≤ x → w x = 0 := fun x hx => by
    by_cases e : w x = 0
    · exact e
    · have := hh.wlt x e; omega
  have hw1 : IntKind.i64.wrap 1 = 1 := by decide
  rw [y_fn (rs := [.cell 8 41, .tmp 9]) (hO _ (by decide)) Try.func11 rfl (by kernel_rfl) rfl rfl]
  generalize sv.getD k (0, 0) = u at hS hHas ⊢
  generalize (cellF hs cl (Int.ofNat k)).1 = cv1 at hcell
  generalize (cellF hs cl (Int.ofNat k)).2 = cv2 at hcell
  repeat (first | with_reducible (first | refine n_on ?_ | refine n_seq ?_ | refine s_else ?_ | refine n_t ?_ | refine n_gt ?_ | refine d_t ?_ | refine n_nil ?_ | refine d_nil ?_ | refine n_block ?_ | refine n_skip ?_ | refine n_bon ?_ | refine n_bback ?_ | refine n_back ?_ | refine n_out ?_ | refine n_bout rfl ?_ | refine n_bfar rfl ?_ | refine n_ret ?_ | refine n_exit ?_ | refine n_label ?_ | refine n_scope ?_ | refine n_son ?_ | refine n_sback ?_) | (with_reducible (first | apply n_region | apply d_region); (simp only [JV, JU, JW, Nat.reduceAdd, Nat.zero_add]; exact rfl)) | (with_reducible (first | apply s_op | apply n_guard | apply n_cond | apply d_guard | apply d_op | apply n_fin | apply n_finb); (simp (maxDischargeDepth := 6) only [sy3.1, zY, qG, qP, qQ, qR, qS, qT, rowAt, ↓jg, ↓ji, Nat.reduceAdd, Nat.reduceEqDiff, ne_eq, jG, Nat.reduceLT, if_true, ite_true, Int.reduceLE, Int.reduceLT, Int.reduceEq, Int.reduceNeg, Int.reduceAdd, Nat.reduceSub, if_false, ite_false, fs_11.1, pV, frV, frC, vv, hR, hrow, hltp, l1, l2, l3, indexAt, Option.isNone_none, Nat.one_mul, Nat.zero_mul, cut_twelve, kind_pure, kind_load, kind_fresh, kind_other, jg, ji, undef]; first | exact rfl | exact ⟨rfl, rfl, rfl, rfl⟩); try (with_reducible refine calmK_in ?_; decide +kernel)))
  rw [y_loop_eq]
  refine y_round ?_
  repeat (first | with_reducible (first | refine n_on ?_ | refine n_seq ?_ | refine s_else ?_ | refine n_t ?_ | refine n_gt ?_ | refine d_t ?_ | refine n_nil ?_ | refine d_nil ?_ | refine n_block ?_ | refine n_skip ?_ | refine n_bon ?_ | refine n_bback ?_ | refine n_back ?_ | refine n_out ?_ | refine n_bout rfl ?_ | refine n_bfar rfl ?_ | refine n_ret ?_ | refine n_exit ?_ | refine n_label ?_ | refine n_scope ?_ | refine n_son ?_ | refine n_sback ?_) | (with_reducible (first | apply n_region | apply d_region); (simp only [JV, JU, JW, Nat.reduceAdd, Nat.zero_add]; exact rfl)) | (with_reducible (first | apply s_op | apply n_guard | apply n_cond | apply d_guard | apply d_op | apply n_fin | apply n_finb); (simp (maxDischargeDepth := 6) only [sy3.1, zY, qG, qP, qQ, qR, qS, qT, rowAt, ↓jg, ↓ji, Nat.reduceAdd, Nat.reduceEqDiff, ne_eq, jG, Nat.reduceLT, if_true, ite_true, Int.reduceLE, Int.reduceLT, Int.reduceEq, Int.reduceNeg, Int.reduceAdd, Nat.reduceSub, if_false, ite_false, fs_11.1, pV, frV, frC, vv, hrow, hu, hku, l4, l5, indexAt, Option.isNone_none, Nat.one_mul, Nat.zero_mul, cut_twelve, kind_pure, kind_load, kind_fresh, kind_other, jg, ji, undef]; first | exact rfl | exact ⟨rfl, rfl, rfl, rfl⟩); try (with_reducible refine calmK_in ?_; decide +kernel)))
  refine s_do _ (by
    simp (maxDischargeDepth := 6) only [sy3.1, zY, qG, qP, qQ, qR, qS, qT, rowAt, ↓jg, ↓ji, Nat.reduceAdd, Nat.reduceEqDiff, ne_eq, jG, Nat.reduceLT, if_true, ite_true, Int.reduceLE, Int.reduceLT, Int.reduceEq, Int.reduceNeg, Int.reduceAdd, Nat.reduceSub, if_false, ite_false, fs_11.1]
    exact got_eq (hcell _ _ _ (by omega) fun x hx => by (repeat (first | rw [qE] | rw [qF _ _ _ _ (by omega)])))) ?_
  rintro _ _ heq
  cases heq
  repeat (first | with_reducible (first | refine n_on ?_ | refine n_seq ?_ | refine s_else ?_ | refine n_t ?_ | refine n_gt ?_ | refine d_t ?_ | refine n_nil ?_ | refine d_nil ?_ | refine n_block ?_ | refine n_skip ?_ | refine n_bon ?_ | refine n_bback ?_ | refine n_back ?_ | refine n_out ?_ | refine n_bout rfl ?_ | refine n_bfar rfl ?_ | refine n_ret ?_ | refine n_exit ?_ | refine n_label ?_ | refine n_scope ?_ | refine n_son ?_ | refine n_sback ?_) | (with_reducible (first | apply n_region | apply d_region); (simp only [JV, JU, JW, Nat.reduceAdd, Nat.zero_add]; exact rfl)) | (with_reducible (first | apply s_op | apply n_guard | apply n_cond | apply d_guard | apply d_op | apply n_fin | apply n_finb); (simp (maxDischargeDepth := 6) only [sy3.1, zY, qG, qP, qQ, qR, qS, qT, rowAt, ↓jg, ↓ji, Nat.reduceAdd, Nat.reduceEqDiff, ne_eq, jG, Nat.reduceLT, if_true, ite_true, Int.reduceLE, Int.reduceLT, Int.reduceEq, Int.reduceNeg, Int.reduceAdd, Nat.reduceSub, if_false, ite_false, fs_11.1, pV, frV, frC, vv, kind_pure, kind_load, kind_fresh, kind_other, jg, ji, undef]; first | exact rfl | exact ⟨rfl, rfl, rfl, rfl⟩); try (with_reducible refine calmK_in ?_; decide +kernel)))
  refine s_do _ (by
    simp (maxDischargeDepth := 6) only [sy3.1, zY, qG, qP, qQ, qR, qS, qT, rowAt, ↓jg, ↓ji, Nat.reduceAdd, Nat.reduceEqDiff, ne_eq, jG, Nat.reduceLT, if_true, ite_true, Int.reduceLE, Int.reduceLT, Int.reduceEq, Int.reduceNeg, Int.reduceAdd, Nat.reduceSub, if_false, ite_false, fs_11.1]
    exact got_eq (hS _ _ _ (by omega) (fun x hx => by (repeat (first | rw [qE] | rw [qF _ _ _ _ (by omega)]))) (by (repeat (first | rw [qE] | rw [qF _ _ _ _ (by omega)]))))) ?_
  rintro _ _ heq
  cases heq
  by_cases h9 : u.1 = 9
  · have d9 := decide_eq_true h9
    repeat (first | with_reducible (first | refine n_on ?_ | refine n_seq ?_ | refine s_else ?_ | refine n_t ?_ | refine n_gt ?_ | refine d_t ?_ | refine n_nil ?_ | refine d_nil ?_ | refine n_block ?_ | refine n_skip ?_ | refine n_bon ?_ | refine n_bback ?_ | refine n_back ?_ | refine n_out ?_ | refine n_bout rfl ?_ | refine n_bfar rfl ?_ | refine n_ret ?_ | refine n_exit ?_ | refine n_label ?_ | refine n_scope ?_ | refine n_son ?_ | refine n_sback ?_) | (with_reducible (first | apply n_region | apply d_region); (simp only [JV, JU, JW, Nat.reduceAdd, Nat.zero_add]; exact rfl)) | (with_reducible (first | apply s_op | apply n_guard | apply n_cond | apply d_guard | apply d_op | apply n_fin | apply n_finb); (simp (maxDischargeDepth := 6) only [sy3.1, zY, qG, qP, qQ, qR, qS, qT, rowAt, ↓jg, ↓ji, Nat.reduceAdd, Nat.reduceEqDiff, ne_eq, jG, Nat.reduceLT, if_true, ite_true, Int.reduceLE, Int.reduceLT, Int.reduceEq, Int.reduceNeg, Int.reduceAdd, Nat.reduceSub, if_false, ite_false, fs_11.1, pV, frV, frC, vv, d9, kind_pure, kind_load, kind_fresh, kind_other, jg, ji, undef]; first | exact rfl | exact ⟨rfl, rfl, rfl, rfl⟩); try (with_reducible refine calmK_in ?_; decide +kernel)))
    refine s_do _ (by
      simp (maxDischargeDepth := 6) only [sy3.1, zY, qG, qP, qQ, qR, qS, qT, rowAt, ↓jg, ↓ji, Nat.reduceAdd, Nat.reduceEqDiff, ne_eq, jG, Nat.reduceLT, if_true, ite_true, Int.reduceLE, Int.reduceLT, Int.reduceEq, Int.reduceNeg, Int.reduceAdd, Nat.reduceSub, if_false, ite_false, fs_11.1]
      exact got_eq (hHas _ _ _ (by omega) fun x hx => by (repeat (first | rw [qE] | rw [qF _ _ _ _ (by omega)])))) ?_
    rintro _ _ heq
    cases heq
    cases hfo : (findO hs u).isSome with
    | false =>
      have e : makeF hs u = (hs, (0, 0), 154) := by unfold makeF; rw [if_neg (fun h => by rw [hfo] at h; exact absurd h.2 (by decide))]
      rw [e]
      repeat (first | with_reducible (first | refine n_on ?_ | refine n_seq ?_ | refine s_else ?_ | refine n_t ?_ | refine n_gt ?_ | refine d_t ?_ | refine n_nil ?_ | refine d_nil ?_ | refine n_block ?_ | refine n_skip ?_ | refine n_bon ?_ | refine n_bback ?_ | refine n_back ?_ | refine n_out ?_ | refine n_bout rfl ?_ | refine n_bfar rfl ?_ | refine n_ret ?_ | refine n_exit ?_ | refine n_label ?_ | refine n_scope ?_ | refine n_son ?_ | refine n_sback ?_) | (with_reducible (first | apply n_region | apply d_region); (simp only [JV, JU, JW, Nat.reduceAdd, Nat.zero_add]; exact rfl)) | (with_reducible (first | apply s_op | apply n_guard | apply n_cond | apply d_guard | apply d_op | apply n_fin | apply n_finb); (simp (maxDischargeDepth := 6) only [sy3.1, zY, qG, qP, qQ, qR, qS, qT, rowAt, ↓jg, ↓ji, Nat.reduceAdd, Nat.reduceEqDiff, ne_eq, jG, Nat.reduceLT, if_true, ite_true, Int.reduceLE, Int.reduceLT, Int.reduceEq, Int.reduceNeg, Int.reduceAdd, Nat.reduceSub, if_false, ite_false, fs_11.1, pV, frV, frC, vv, kind_pure, kind_load, kind_fresh, kind_other, jg, ji, undef]; first | exact rfl | exact ⟨rfl, rfl, rfl, rfl⟩); try (with_reducible refine calmK_in ?_; decide +kernel)))
      exact quiet_end (by simp only [all_relogL, js, ju, List.all_nil, jt, Bool.and_self]) (by rfl) (.same hh _)
    | true =>
      have e : makeF hs u = funcO hs 1 [u] := by unfold makeF; rw [if_pos ⟨h9, hfo⟩]
      rw [e]
      repeat (first | with_reducible (first | refine n_on ?_ | refine n_seq ?_ | refine s_else ?_ | refine n_t ?_ | refine n_gt ?_ | refine d_t ?_ | refine n_nil ?_ | refine d_nil ?_ | refine n_block ?_ | refine n_skip ?_ | refine n_bon ?_ | refine n_bback ?_ | refine n_back ?_ | refine n_out ?_ | refine n_bout rfl ?_ | refine n_bfar rfl ?_ | refine n_ret ?_ | refine n_exit ?_ | refine n_label ?_ | refine n_scope ?_ | refine n_son ?_ | refine n_sback ?_) | (with_reducible (first | apply n_region | apply d_region); (simp only [JV, JU, JW, Nat.reduceAdd, Nat.zero_add]; exact rfl)) | (with_reducible (first | apply s_op | apply n_guard | apply n_cond | apply d_guard | apply d_op | apply n_fin | apply n_finb); (simp (maxDischargeDepth := 6) only [sy3.1, zY, qG, qP, qQ, qR, qS, qT, rowAt, ↓jg, ↓ji, Nat.reduceAdd, Nat.reduceEqDiff, ne_eq, jG, Nat.reduceLT, if_true, ite_true, Int.reduceLE, Int.reduceLT, Int.reduceEq, Int.reduceNeg, Int.reduceAdd, Nat.reduceSub, if_false, ite_false, fs_11.1, pV, frV, frC, vv, st_buildSliceV, build_vv1, vapp_one (a := .int .u8 u.1) (b := .int .i64 u.2), hw1, kind_pure, kind_load, kind_fresh, kind_other, jg, ji, undef]; first | exact rfl | exact ⟨rfl, rfl, rfl, rfl⟩); try (with_reducible refine calmK_in ?_; decide +kernel)))
      refine y_round ?_
      have l6 : decide ((1 : Int) < Int.ofNat 1) = false := by decide
      repeat (first | with_reducible (first | refine n_on ?_ | refine n_seq ?_ | refine s_else ?_ | refine n_t ?_ | refine n_gt ?_ | refine d_t ?_ | refine n_nil ?_ | refine d_nil ?_ | refine n_block ?_ | refine n_skip ?_ | refine n_bon ?_ | refine n_bback ?_ | refine n_back ?_ | refine n_out ?_ | refine n_bout rfl ?_ | refine n_bfar rfl ?_ | refine n_ret ?_ | refine n_exit ?_ | refine n_label ?_ | refine n_scope ?_ | refine n_son ?_ | refine n_sback ?_) | (with_reducible (first | apply n_region | apply d_region); (simp only [JV, JU, JW, Nat.reduceAdd, Nat.zero_add]; exact rfl)) | (with_reducible (first | apply s_op | apply n_guard | apply n_cond | apply d_guard | apply d_op | apply n_fin | apply n_finb); (simp (maxDischargeDepth := 6) only [sy3.1, zY, qG, qP, qQ, qR, qS, qT, rowAt, ↓jg, ↓ji, Nat.reduceAdd, Nat.reduceEqDiff, ne_eq, jG, Nat.reduceLT, if_true, ite_true, Int.reduceLE, Int.reduceLT, Int.reduceEq, Int.reduceNeg, Int.reduceAdd, Nat.reduceSub, if_false, ite_false, fs_11.1, pV, frV, frC, vv, l6, kind_pure, kind_load, kind_fresh, kind_other, jg, ji, undef]; first | exact rfl | exact ⟨rfl, rfl, rfl, rfl⟩); try (with_reducible refine calmK_in ?_; decide +kernel)))
      refine s_do _ (by
        simp (maxDischargeDepth := 6) only [sy3.1, zY, qG, qP, qQ, qR, qS, qT, rowAt, ↓jg, ↓ji, Nat.reduceAdd, Nat.reduceEqDiff, ne_eq, jG, Nat.reduceLT, if_true, ite_true, Int.reduceLE, Int.reduceLT, Int.reduceEq, Int.reduceNeg, Int.reduceAdd, Nat.reduceSub, if_false, ite_false, fs_11.1]
        exact func_ok (n := n + 2) (a := some _) (l := [u]) (cc := 0) hO (hh.more (by omega) fun x hx => by (repeat (first | rw [qE] | rw [qF _ _ _ _ (by omega)]))) hG 1 (.inr ⟨_, [], rfl, by omega, qE _ _ _⟩) (fun e => (by cases e)) (by simp) hc hmade (by omega) (by simp)) ?_
      rintro v1 ⟨o2, nx2, lg2⟩ ⟨_, _, _, w', B', heq, hn2, hH2, hB, hfr2, hmo2, hl2⟩
      cases heq
      have w2 : w (nx + 2) = 0 := hwnx _ (by omega)
      have h8 : o2.get (nx + 2) = some (.row [.int .u8 0, .int .i64 0] 41 0 true) := by rw [(hfr2 (nx + 2) (by omega) w2).1]; (repeat (first | rw [qE] | rw [qF _ _ _ _ (by omega)]))
      have w2' := (hfr2 (nx + 2) (by omega) w2).2
      repeat (first | with_reducible (first | refine n_on ?_ | refine n_seq ?_ | refine s_else ?_ | refine n_t ?_ | refine n_gt ?_ | refine d_t ?_ | refine n_nil ?_ | refine d_nil ?_ | refine n_block ?_ | refine n_skip ?_ | refine n_bon ?_ | refine n_bback ?_ | refine n_back ?_ | refine n_out ?_ | refine n_bout rfl ?_ | refine n_bfar rfl ?_ | refine n_ret ?_ | refine n_exit ?_ | refine n_label ?_ | refine n_scope ?_ | refine n_son ?_ | refine n_sback ?_) | (with_reducible (first | apply n_region | apply d_region); (simp only [JV, JU, JW, Nat.reduceAdd, Nat.zero_add]; exact rfl)) | (with_reducible (first | apply s_op | apply n_guard | apply n_cond | apply d_guard | apply d_op | apply n_fin | apply n_finb); (simp (maxDischargeDepth := 6) only [sy3.1, zY, qG, qP, qQ, qR, qS, qT, rowAt, ↓jg, ↓ji, Nat.reduceAdd, Nat.reduceEqDiff, ne_eq, jG, Nat.reduceLT, if_true, ite_true, Int.reduceLE, Int.reduceLT, Int.reduceEq, Int.reduceNeg, Int.reduceAdd, Nat.reduceSub, if_false, ite_false, fs_11.1, vv, h8, kind_pure, kind_load, kind_fresh, kind_other, jg, ji, undef]; first | exact rfl | exact ⟨rfl, rfl, rfl, rfl⟩); try (with_reducible refine calmK_in ?_; decide +kernel)))
      refine hto_end hh (w' := w') (B' := B') (by rfl) (hH2.keep (by omega) (fun x hx => by have := hH2.wlt x hx; omega) fun x hx => ⟨?_, rfl⟩) (by omega) hB (fun x hx hw0 => ?_) ?_
      · have : x ≠ nx + 2 := fun e => hx (by rw [e]; exact w2')
        (repeat (first | rw [qE] | rw [qF _ _ _ _ (by omega)]))
      · have := hfr2 x (by omega) hw0
        refine ⟨?_, this.2⟩
        (repeat (first | rw [qE] | rw [qF _ _ _ _ (by omega)]))
        rw [this.1]
        (repeat (first | rw [qE] | rw [qF _ _ _ _ (by omega)]))
      · rcases hl2 with ⟨x, hx, hwx⟩ | ⟨rfl, _, rfl, _, _, e2⟩
        · exact .inl ⟨x, by simp only [in_relogL, in_note, hx, true_or, or_true], hwx⟩
        · exact .inr ⟨e2, by simp only [all_relogL, js, ju, List.all_nil, jt, Bool.and_self]⟩
  · have d9 := decide_eq_false h9
    have e : makeF hs u = (hs, (0, 0), 154) := by unfold makeF; rw [if_neg (fun h => h9 h.1)]
    rw [e]
    repeat (first | with_reducible (first | refine n_on ?_ | refine n_seq ?_ | refine s_else ?_ | refine n_t ?_ | refine n_gt ?_ | refine d_t ?_ | refine n_nil ?_ | refine d_nil ?_ | refine n_block ?_ | refine n_skip ?_ | refine n_bon ?_ | refine n_bback ?_ | refine n_back ?_ | refine n_out ?_ | refine n_bout rfl ?_ | refine n_bfar rfl ?_ | refine n_ret ?_ | refine n_exit ?_ | refine n_label ?_ | refine n_scope ?_ | refine n_son ?_ | refine n_sback ?_) | (with_reducible (first | apply n_region | apply d_region); (simp only [JV, JU, JW, Nat.reduceAdd, Nat.zero_add]; exact rfl)) | (with_reducible (first | apply s_op | apply n_guard | apply n_cond | apply d_guard | apply d_op | apply n_fin | apply n_finb); (simp (maxDischargeDepth := 6) only [sy3.1, zY, qG, qP, qQ, qR, qS, qT, rowAt, ↓jg, ↓ji, Nat.reduceAdd, Nat.reduceEqDiff, ne_eq, jG, Nat.reduceLT, if_true, ite_true, Int.reduceLE, Int.reduceLT, Int.reduceEq, Int.reduceNeg, Int.reduceAdd, Nat.reduceSub, if_false, ite_false, fs_11.1, pV, frV, frC, vv, d9, kind_pure, kind_load, kind_fresh, kind_other, jg, ji, undef]; first | exact rfl | exact ⟨rfl, rfl, rfl, rfl⟩); try (with_reducible refine calmK_in ?_; decide +kernel)))
    exact quiet_end (by simp only [all_relogL, js, ju, List.all_nil, jt, Bool.and_self]) (by rfl) (.same hh _)
end
end Go.Proofs.Ytckahbnkdiamjaa
