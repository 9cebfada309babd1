/- Frame: Fresh and Set, on the abstract machine, where all is right. -/
import Derived.Test.YtckahbnkdiamjaaFrGet
namespace Go.Proofs.Ytckahbnkdiamjaa
open Go.RowKit
set_option linter.unusedSimpArgs false
set_option linter.unusedVariables false
set_option maxRecDepth 100000

/-- what a call that turns the frame, and the heap, leaves -/
def FrTo (o : Tr AObj) (nx : Nat) (lg : List Nat) (w : Nat → Nat) (B : HB) (hs' : HS) (kf : Nat) (cl : Int) (sv' : List VV) (r : Value × AHeap) : Prop :=
  ∃ o' nx' lg' w' B' sa', r = (.int .i64 0, ⟨o', nx', lg'⟩) ∧ nx ≤ nx' ∧ HeapIn o' nx' w' B' hs' ∧ B'.i = B.i ∧ FrIn o' nx' kf cl sa' 0 sv' ∧ nx ≤ sa' ∧ w' sa' = 0 ∧ (∀ x, x < nx → w x = 0 → w' x = 0 ∧ (x ≠ kf → o'.get x = o.get x)) ∧ (∀ y, y ∈ lg → y ∈ lg') ∧ kf ∈ lg'
theorem vv_set (l : List VV) (rest : List Value) (k : Nat) (v : VV) (hk : k < l.length) : ((vvCells l ++ rest).set (k * 2) (.int .u8 v.1)).set (k * 2 + 1) (.int .i64 v.2) = vvCells (l.set k v) ++ rest := by
  have e : vvCells l = vvCells (l.take k) ++ ([.int .u8 (l[k]).1, .int .i64 (l[k]).2] ++ vvCells (l.drop (k + 1))) := by
    conv => lhs; rw [← List.take_append_drop k l, List.drop_eq_getElem_cons hk]
    simp only [vvCells, List.flatMap_append, List.flatMap_cons]
  have e2 : l.set k v = l.take k ++ (v :: l.drop (k + 1)) := by rw [List.set_eq_take_append_cons_drop, if_pos hk]
  have hl : (vvCells (l.take k)).length = k * 2 := by rw [vv_len, List.length_take, Nat.min_eq_left (by omega)]
  rw [e, e2]
  simp only [vvCells, List.flatMap_append, List.flatMap_cons] at hl ⊢
  simp only [List.append_assoc]
  rw [List.set_append_right _ _ (by omega), List.set_append_right _ _ (by omega), hl]
  congr 1
  rw [show k * 2 - k * 2 = 0 from by omega, show k * 2 + 1 - k * 2 = 1 from by omega]
  rfl
section
variable {O : Helps} {n : Nat} {o : Tr AObj} {nx : Nat} {lg : List Nat} {w : Nat → Nat} {B : HB} {hs : HS} {kp kb ks : Nat} {bx : List Bool} {ups : Value} {cl : Int} {sa c : Nat}
set_option maxHeartbeats 32000000 in
theorem ffresh_ok (hO : Clear O) (hh : HeapIn o nx w B hs) (hG : HGood hs) (h : ProgIn o nx kp kb ks bx ups) {kf : Nat} {sv : List VV} (hf : FrIn o nx kf cl sa c sv) (wf : w kf = 0) (ws : w sa = 0) {k : Nat} (hk : k < 5) (v : VV) (hcell : bx.getD k false = true → (cellO hs v).2.2 = 0) (hc : hs.pool.count < 65536) (hmade : hs.made < 4611686018427387904) (hn : hs.pool.sizes.length < n) :
    Got (oCall Try.prog [] O (n + 6) 14 [pV kp, .pointer (some ⟨B.i, 0, none⟩), .pointer (some ⟨kf, 0, none⟩), .int .i64 (.ofNat k), .agg #[.int .u8 v.1, .int .i64 v.2]] ⟨o, nx, lg⟩) (FrTo o nx lg w B (if bx.getD k false = true then (cellO hs v).1 else hs) kf cl (sv.set k (if bx.getD k false = true then (cellO hs v).2.1 else v))) := by
  have hltf := hf.ltf
  have hlts := hf.lts
  have hne := hf.ne
  have hls := hf.len
  obtain ⟨zf, hfr⟩ := hf.row
  obtain ⟨rests, hsr⟩ := hf.slots
  have hwnx : ∀ x, nx ≤ x → w x = 0 := fun x hx => by
    by_cases e : w x = 0
    · exact e
    · have := hh.wlt x e; omega
  have hS := fun (X Y : AObj) (q : Nat) (lg : List Nat) => fslot_ok (n := n + 3) (o := (o.put nx (some X)).put (nx + 1) (some Y)) (nx := nx + (q + 2)) (lg := lg) hO (h.more (by omega) fun x hx => by (repeat (first | rw [qE] | rw [qF _ _ _ _ (by omega)]))) (hf.more (by omega) fun x hx => by (repeat (first | rw [qE] | rw [qF _ _ _ _ (by omega)]))) hk
  rw [y_fn (rs := [.tmp 10]) (hO _ (by decide)) Try.func14 rfl (by kernel_rfl) rfl rfl]
  generalize bx.getD k false = b at hS hcell ⊢
  generalize sv.getD k (0, 0) = u at hS
  cases b with
  | true =>
    repeat (first | with_reducible (first | refine n_on ?_ | refine n_seq ?_ | refine s_else ?_ | refine n_t ?_ | refine n_gt ?_ | refine d_t ?_ | refine n_nil ?_ | refine d_nil ?_ | refine n_block ?_ | refine n_skip ?_ | refine n_bon ?_ | refine n_bback ?_ | refine n_back ?_ | refine n_out ?_ | refine n_bout rfl ?_ | refine n_bfar rfl ?_ | refine n_ret ?_ | refine n_exit ?_ | refine n_label ?_ | refine n_scope ?_ | refine n_son ?_ | refine n_sback ?_) | (with_reducible (first | apply n_region | apply d_region); (simp only [JV, JU, JW, Nat.reduceAdd, Nat.zero_add]; exact rfl)) | (with_reducible (first | apply s_op | apply n_guard | apply n_cond | apply d_guard | apply d_op | apply n_fin | apply n_finb); (simp (maxDischargeDepth := 6) only [sy3.1, zY, qG, qP, qQ, qR, qS, qT, rowAt, ↓jg, ↓ji, Nat.reduceAdd, Nat.reduceEqDiff, ne_eq, jG, Nat.reduceLT, if_true, ite_true, Int.reduceLE, Int.reduceLT, Int.reduceEq, Int.reduceNeg, Int.reduceAdd, Nat.reduceSub, if_false, ite_false, fs_14.1, pV, vv, hS, kind_pure, kind_load, kind_fresh, kind_other, jg, ji, undef]; first | exact rfl | exact ⟨rfl, rfl, rfl, rfl⟩); try (with_reducible refine calmK_in ?_; decide +kernel)))
    refine s_do _ (by
      simp (maxDischargeDepth := 6) only [sy3.1, zY, qG, qP, qQ, qR, qS, qT, rowAt, ↓jg, ↓ji, Nat.reduceAdd, Nat.reduceEqDiff, ne_eq, jG, Nat.reduceLT, if_true, ite_true, Int.reduceLE, Int.reduceLT, Int.reduceEq, Int.reduceNeg, Int.reduceAdd, Nat.reduceSub, if_false, ite_false, fs_14.1]
      exact cell_ok hO (hh.more (by omega) fun x hx => by (repeat (first | rw [qE] | rw [qF _ _ _ _ (by omega)]))) hG v hc hmade hn) ?_
    rintro v1 H1 ⟨o1, nx1, lg1, w1, B1, heq, hn1, hH0, hB1, hfr1, hmo1, _⟩
    cases heq
    rw [hcell rfl]
    have h9o : o1.get (nx + 1) = some (.row [.int .u8 v.1, .int .i64 v.2] 41 0 true) := by
      rw [(hfr1 (nx + 1) (by omega) (hwnx _ (by omega))).1]; (repeat (first | rw [qE] | rw [qF _ _ _ _ (by omega)]))
    have hfk0 : o1.get kf = some (.row (frC cl sa c) 29 zf true) := by
      rw [(hfr1 kf (by omega) wf).1]; (repeat (first | rw [qE] | rw [qF _ _ _ _ (by omega)])); exact hfr
    have hj1 : nx + 1 ≠ kf := by omega
    have hj2 := Ne.symm hj1
    have hlt1 : nx + 1 < nx1 := by omega
    have hkf1 : kf < nx1 := by omega
    repeat (first | with_reducible (first | refine n_on ?_ | refine n_seq ?_ | refine s_else ?_ | refine n_t ?_ | refine n_gt ?_ | refine d_t ?_ | refine n_nil ?_ | refine d_nil ?_ | refine n_block ?_ | refine n_skip ?_ | refine n_bon ?_ | refine n_bback ?_ | refine n_back ?_ | refine n_out ?_ | refine n_bout rfl ?_ | refine n_bfar rfl ?_ | refine n_ret ?_ | refine n_exit ?_ | refine n_label ?_ | refine n_scope ?_ | refine n_son ?_ | refine n_sback ?_) | (with_reducible (first | apply n_region | apply d_region); (simp only [JV, JU, JW, Nat.reduceAdd, Nat.zero_add]; exact rfl)) | (with_reducible (first | apply s_op | apply n_guard | apply n_cond | apply d_guard | apply d_op | apply n_fin | apply n_finb); (simp (maxDischargeDepth := 6) only [sy3.1, zY, qG, qP, qQ, qR, qS, qT, rowAt, ↓jg, ↓ji, Nat.reduceAdd, Nat.reduceEqDiff, ne_eq, jG, Nat.reduceLT, if_true, ite_true, Int.reduceLE, Int.reduceLT, Int.reduceEq, Int.reduceNeg, Int.reduceAdd, Nat.reduceSub, if_false, ite_false, fs_14.1, frC, vv, h9o, hfk0, hj1, hj2, hlt1, hkf1, hltf, kind_pure, kind_load, kind_fresh, kind_other, jg, ji, undef]; first | exact rfl | exact ⟨rfl, rfl, rfl, rfl⟩); try (with_reducible refine calmK_in ?_; decide +kernel)))
    simp only [if_true]
    have w26 : w1 (nx + 26) = 0 := (hfr1 (nx + 26) (by omega) (hwnx _ (by omega))).2
    have w1n : w1 (nx + 1) = 0 := (hfr1 (nx + 1) (by omega) (hwnx _ (by omega))).2
    obtain ⟨V, hV⟩ : ∃ V, V = (cellO hs v).2.1 := ⟨_, rfl⟩
    rw [← hV]
    obtain ⟨O1, hO1⟩ : ∃ O1, O1 = ((((o1.put (nx + 26) (some (.row [.int .u8 0, .int .i64 0] 41 0 true))).put (nx + 26) (some (.row [.int .u8 V.1, .int .i64 0] 41 0 true))).put (nx + 26) (some (.row [.int .u8 V.1, .int .i64 V.2] 41 0 true))).put (nx + 1) (some (.row [.int .u8 V.1, .int .i64 v.2] 41 0 true))).put (nx + 1) (some (.row [.int .u8 V.1, .int .i64 V.2] 41 0 true)) := ⟨_, rfl⟩
    rw [← hO1]
    have hold0 : ∀ x, x < nx → w x = 0 → O1.get x = o.get x := fun x hx hw0 => by
      rw [hO1]; (repeat (first | rw [qE] | rw [qF _ _ _ _ (by omega)]))
      rw [(hfr1 x (by omega) hw0).1]; (repeat (first | rw [qE] | rw [qF _ _ _ _ (by omega)]))
    have hfk := (hold0 kf hltf wf).trans hfr
    have hsk := (hold0 sa hlts ws).trans hsr
    have h9 : O1.get (nx + 1) = some (.row [.int .u8 V.1, .int .i64 V.2] 41 0 true) := by rw [hO1]; (repeat (first | rw [qE] | rw [qF _ _ _ _ (by omega)]))
    have hH1' : HeapIn O1 (nx1 + 13) w1 B1 (cellO hs v).1 := hH0.keep (by omega) (fun x hx => by have := hH0.wlt x hx; omega) fun x hx => ⟨by
      have e1 : x ≠ nx + 26 := fun e => hx (by rw [e]; exact w26)
      have e2 : x ≠ nx + 1 := fun e => hx (by rw [e]; exact w1n)
      rw [hO1]; (repeat (first | rw [qE] | rw [qF _ _ _ _ (by omega)])), rfl⟩
    obtain ⟨N1, hN1⟩ : ∃ N1, N1 = nx1 + 13 := ⟨_, rfl⟩
    rw [← hN1] at hH1' ⊢
    have hH1 := hH1'
    generalize (noteId (nx + 1) (noteId (nx + 1) (noteId (nx + 26) (noteId (nx + 26) lg1))) : List Nat) = L1
    have hwz : ∀ x, x < nx → w x = 0 → w1 x = 0 := fun x hx hw0 => (hfr1 x (by omega) hw0).2
    have hcl5 := vclone_ok (n := n + 4) (o := O1) (nx := N1) (lg := L1) (a := some sa) (cc := c) hO (.inr ⟨sa, rests, rfl, by omega, hsk⟩) (fun e => (by cases e)) (by omega)
    rw [hls] at hcl5
    refine s_do _ (by
      simp (maxDischargeDepth := 6) only [sy3.1, zY, qG, qP, qQ, qR, qS, qT, rowAt, ↓jg, ↓ji, Nat.reduceAdd, Nat.reduceEqDiff, ne_eq, jG, Nat.reduceLT, if_true, ite_true, Int.reduceLE, Int.reduceLT, Int.reduceEq, Int.reduceNeg, Int.reduceAdd, Nat.reduceSub, if_false, ite_false, fs_14.1]
      exact hcl5) ?_
    rintro v2 H2 ⟨ca, c2, o2, nx2, heq, hn2, hv2, hc2, hca2, hfr2, _, _⟩
    cases heq
    rcases hv2 with ⟨_, e⟩ | ⟨j, rest2, rfl, hj2, hrow2⟩
    · rw [e] at hls; cases hls
    have hc20 : c2 = 0 := by
      rcases hc2 with e | ⟨_, e, _⟩
      · exact e
      · rw [e] at hls; cases hls
    subst hc20
    have hjN := hca2 j rfl
    have hfk2 := (hfr2 kf (by omega)).trans hfk
    have h92 := (hfr2 (nx + 1) (by omega)).trans h9
    have hH2 := hH1.more hn2 hfr2
    have t1 := vv_set sv rest2 k V (by omega)
    have l5 : Nat.blt k 5 = true := by rw [Nat.blt_eq]; exact hk
    have s1 : (k * 2 < (vvCells sv ++ rest2).length) = True := eq_true (by rw [List.length_append, vv_len]; omega)
    have s2 : (k * 2 + 1 < (vvCells sv ++ rest2).length) = True := eq_true (by rw [List.length_append, vv_len]; omega)
    have hjk : j ≠ kf := by omega
    have hkj := Ne.symm hjk
    have hj3 : nx + 1 ≠ j := by omega
    repeat (first | with_reducible (first | refine n_on ?_ | refine n_seq ?_ | refine s_else ?_ | refine n_t ?_ | refine n_gt ?_ | refine d_t ?_ | refine n_nil ?_ | refine d_nil ?_ | refine n_block ?_ | refine n_skip ?_ | refine n_bon ?_ | refine n_bback ?_ | refine n_back ?_ | refine n_out ?_ | refine n_bout rfl ?_ | refine n_bfar rfl ?_ | refine n_ret ?_ | refine n_exit ?_ | refine n_label ?_ | refine n_scope ?_ | refine n_son ?_ | refine n_sback ?_) | (with_reducible (first | apply n_region | apply d_region); (simp only [JV, JU, JW, Nat.reduceAdd, Nat.zero_add]; exact rfl)) | (with_reducible (first | apply s_op | apply n_guard | apply n_cond | apply d_guard | apply d_op | apply n_fin | apply n_finb); (simp (maxDischargeDepth := 6) only [sy3.1, zY, qG, qP, qQ, qR, qS, qT, rowAt, ↓jg, ↓ji, Nat.reduceAdd, Nat.reduceEqDiff, ne_eq, jG, Nat.reduceLT, if_true, ite_true, Int.reduceLE, Int.reduceLT, Int.reduceEq, Int.reduceNeg, Int.reduceAdd, Nat.reduceSub, if_false, ite_false, fs_14.1, slA, hls, hfk2, h92, hrow2, hjk, hkj, hj1, hj3, indexAt, Option.isNone_none, l5, s1, s2, t1, List.length_set, kind_pure, kind_load, kind_fresh, kind_other, jg, ji, undef]; first | exact rfl | exact ⟨rfl, rfl, rfl, rfl⟩); try (with_reducible refine calmK_in ?_; decide +kernel)))
    have hjw : w1 j = 0 := by
      by_cases e : w1 j = 0
      · exact e
      · have := hH1.wlt j e; omega
    have hkw := hwz kf hltf wf
    refine loud_end (x := kf) (by simp only [in_relogL, in_note, true_or, or_true]) hltf fun l' hmo hin => ?_
    refine ⟨_, _, _, w1, B1, j, rfl, by omega, hH2.keep (by omega) (fun x hx => by have := hH2.wlt x hx; omega) (fun x hx => ⟨?_, rfl⟩), hB1, ⟨by omega, by omega, hjk, ⟨zf, by (repeat (first | rw [qE] | rw [qF _ _ _ _ (by omega)]))⟩, ⟨rest2, qE _ _ _⟩, by rw [List.length_set]; exact hls, hf.cl1⟩, by omega, hjw, fun x hx hw0 => ⟨hwz x hx hw0, fun hxk => ?_⟩, hmo, hin kf (by simp only [in_relogL, in_note, true_or, or_true]) hltf⟩
    · have e1 : x ≠ kf := fun e => hx (by rw [e]; exact hkw)
      have e2 : x ≠ j := fun e => hx (by rw [e]; exact hjw)
      (repeat (first | rw [qE] | rw [qF _ _ _ _ (by omega)]))
    · (repeat (first | rw [qE] | rw [qF _ _ _ _ (by omega)]))
      rw [hfr2 x (by omega)]
      exact hold0 x hx hw0
  | false =>
    repeat (first | with_reducible (first | refine n_on ?_ | refine n_seq ?_ | refine s_else ?_ | refine n_t ?_ | refine n_gt ?_ | refine d_t ?_ | refine n_nil ?_ | refine d_nil ?_ | refine n_block ?_ | refine n_skip ?_ | refine n_bon ?_ | refine n_bback ?_ | refine n_back ?_ | refine n_out ?_ | refine n_bout rfl ?_ | refine n_bfar rfl ?_ | refine n_ret ?_ | refine n_exit ?_ | refine n_label ?_ | refine n_scope ?_ | refine n_son ?_ | refine n_sback ?_) | (with_reducible (first | apply n_region | apply d_region); (simp only [JV, JU, JW, Nat.reduceAdd, Nat.zero_add]; exact rfl)) | (with_reducible (first | apply s_op | apply n_guard | apply n_cond | apply d_guard | apply d_op | apply n_fin | apply n_finb); (simp (maxDischargeDepth := 6) only [sy3.1, zY, qG, qP, qQ, qR, qS, qT, rowAt, ↓jg, ↓ji, Nat.reduceAdd, Nat.reduceEqDiff, ne_eq, jG, Nat.reduceLT, if_true, ite_true, Int.reduceLE, Int.reduceLT, Int.reduceEq, Int.reduceNeg, Int.reduceAdd, Nat.reduceSub, if_false, ite_false, fs_14.1, pV, frC, vv, hS, hfr, hltf, kind_pure, kind_load, kind_fresh, kind_other, jg, ji, undef]; first | exact rfl | exact ⟨rfl, rfl, rfl, rfl⟩); try (with_reducible refine calmK_in ?_; decide +kernel)))
    simp only [Bool.false_eq_true, if_false]
    obtain ⟨O1, hO1⟩ : ∃ O1, O1 = ((((o.put nx (some (.row [.slice none 0 0, .slice (some ⟨kp, 0, none⟩) 2 3] 33 0 true))).put (nx + 1) (some (.row [.int .u8 v.1, .int .i64 v.2] 41 0 true))).put (nx + 13) (some (.row [.int .u8 0, .int .i64 0] 41 0 true))).put (nx + 13) (some (.row [.int .u8 u.1, .int .i64 0] 41 0 true))).put (nx + 13) (some (.row [.int .u8 u.1, .int .i64 u.2] 41 0 true)) := ⟨_, rfl⟩
    rw [← hO1]
    have hold : ∀ x, x < nx → O1.get x = o.get x := fun x hx => by rw [hO1]; (repeat (first | rw [qE] | rw [qF _ _ _ _ (by omega)]))
    have hfk := (hold kf hltf).trans hfr
    have hsk := (hold sa hlts).trans hsr
    have h9 : O1.get (nx + 1) = some (.row [.int .u8 v.1, .int .i64 v.2] 41 0 true) := by rw [hO1]; (repeat (first | rw [qE] | rw [qF _ _ _ _ (by omega)]))
    obtain ⟨N1, hN1⟩ : ∃ N1, N1 = nx + 29 := ⟨_, rfl⟩
    rw [← hN1]
    generalize (noteId (nx + 13) (noteId (nx + 13) []) : List Nat) = L1
    have hH1 := hh.more (nx' := N1) (by omega) hold
    have hold0 : ∀ x, x < nx → w x = 0 → O1.get x = o.get x := fun x hx _ => hold x hx
    obtain ⟨w1, hw1e⟩ : ∃ w1, w1 = w := ⟨_, rfl⟩
    rw [← hw1e] at hH1
    have hwz : ∀ x, x < nx → w x = 0 → w1 x = 0 := fun x _ h => by rw [hw1e]; exact h
    obtain ⟨B1, hB1e⟩ : ∃ B1, B1 = B := ⟨_, rfl⟩
    rw [← hB1e] at hH1
    have hB1 : B1.i = B.i := by rw [hB1e]
    obtain ⟨V, hV⟩ : ∃ V, V = v := ⟨_, rfl⟩
    rw [← hV] at h9 ⊢
    have hcl5 := vclone_ok (n := n + 4) (o := O1) (nx := N1) (lg := L1) (a := some sa) (cc := c) hO (.inr ⟨sa, rests, rfl, by omega, hsk⟩) (fun e => (by cases e)) (by omega)
    rw [hls] at hcl5
    refine s_do _ (by
      simp (maxDischargeDepth := 6) only [sy3.1, zY, qG, qP, qQ, qR, qS, qT, rowAt, ↓jg, ↓ji, Nat.reduceAdd, Nat.reduceEqDiff, ne_eq, jG, Nat.reduceLT, if_true, ite_true, Int.reduceLE, Int.reduceLT, Int.reduceEq, Int.reduceNeg, Int.reduceAdd, Nat.reduceSub, if_false, ite_false, fs_14.1]
      exact hcl5) ?_
    rintro v2 H2 ⟨ca, c2, o2, nx2, heq, hn2, hv2, hc2, hca2, hfr2, _, _⟩
    cases heq
    rcases hv2 with ⟨_, e⟩ | ⟨j, rest2, rfl, hj2, hrow2⟩
    · rw [e] at hls; cases hls
    have hc20 : c2 = 0 := by
      rcases hc2 with e | ⟨_, e, _⟩
      · exact e
      · rw [e] at hls; cases hls
    subst hc20
    have hjN := hca2 j rfl
    have hfk2 := (hfr2 kf (by omega)).trans hfk
    have h92 := (hfr2 (nx + 1) (by omega)).trans h9
    have hH2 := hH1.more hn2 hfr2
    have t1 := vv_set sv rest2 k V (by omega)
    have l5 : Nat.blt k 5 = true := by rw [Nat.blt_eq]; exact hk
    have s1 : (k * 2 < (vvCells sv ++ rest2).length) = True := eq_true (by rw [List.length_append, vv_len]; omega)
    have s2 : (k * 2 + 1 < (vvCells sv ++ rest2).length) = True := eq_true (by rw [List.length_append, vv_len]; omega)
    have hjk : j ≠ kf := by omega
    have hkj := Ne.symm hjk
    have hj1 : nx + 1 ≠ kf := by omega
    have hj3 : nx + 1 ≠ j := by omega
    repeat (first | with_reducible (first | refine n_on ?_ | refine n_seq ?_ | refine s_else ?_ | refine n_t ?_ | refine n_gt ?_ | refine d_t ?_ | refine n_nil ?_ | refine d_nil ?_ | refine n_block ?_ | refine n_skip ?_ | refine n_bon ?_ | refine n_bback ?_ | refine n_back ?_ | refine n_out ?_ | refine n_bout rfl ?_ | refine n_bfar rfl ?_ | refine n_ret ?_ | refine n_exit ?_ | refine n_label ?_ | refine n_scope ?_ | refine n_son ?_ | refine n_sback ?_) | (with_reducible (first | apply n_region | apply d_region); (simp only [JV, JU, JW, Nat.reduceAdd, Nat.zero_add]; exact rfl)) | (with_reducible (first | apply s_op | apply n_guard | apply n_cond | apply d_guard | apply d_op | apply n_fin | apply n_finb); (simp (maxDischargeDepth := 6) only [sy3.1, zY, qG, qP, qQ, qR, qS, qT, rowAt, ↓jg, ↓ji, Nat.reduceAdd, Nat.reduceEqDiff, ne_eq, jG, Nat.reduceLT, if_true, ite_true, Int.reduceLE, Int.reduceLT, Int.reduceEq, Int.reduceNeg, Int.reduceAdd, Nat.reduceSub, if_false, ite_false, fs_14.1, slA, hls, hfk2, h92, hrow2, hjk, hkj, hj1, hj3, indexAt, Option.isNone_none, l5, s1, s2, t1, List.length_set, kind_pure, kind_load, kind_fresh, kind_other, jg, ji, undef]; first | exact rfl | exact ⟨rfl, rfl, rfl, rfl⟩); try (with_reducible refine calmK_in ?_; decide +kernel)))
    have hjw : w1 j = 0 := by
      by_cases e : w1 j = 0
      · exact e
      · have := hH1.wlt j e; omega
    have hkw := hwz kf hltf wf
    refine loud_end (x := kf) (by simp only [in_relogL, in_note, true_or, or_true]) hltf fun l' hmo hin => ?_
    refine ⟨_, _, _, w1, B1, j, rfl, by omega, hH2.keep (by omega) (fun x hx => by have := hH2.wlt x hx; omega) (fun x hx => ⟨?_, rfl⟩), hB1, ⟨by omega, by omega, hjk, ⟨zf, by (repeat (first | rw [qE] | rw [qF _ _ _ _ (by omega)]))⟩, ⟨rest2, qE _ _ _⟩, by rw [List.length_set]; exact hls, hf.cl1⟩, by omega, hjw, fun x hx hw0 => ⟨hwz x hx hw0, fun hxk => ?_⟩, hmo, hin kf (by simp only [in_relogL, in_note, true_or, or_true]) hltf⟩
    · have e1 : x ≠ kf := fun e => hx (by rw [e]; exact hkw)
      have e2 : x ≠ j := fun e => hx (by rw [e]; exact hjw)
      (repeat (first | rw [qE] | rw [qF _ _ _ _ (by omega)]))
    · (repeat (first | rw [qE] | rw [qF _ _ _ _ (by omega)]))
      rw [hfr2 x (by omega)]
      exact hold0 x hx hw0
end
end Go.Proofs.Ytckahbnkdiamjaa
