/- Frame: Set, on the abstract machine, where all is right. -/
import Derived.Test.YtckahbnkdiamjaaFrFresh
namespace Go.Proofs.Ytckahbnkdiamjaa
open Go.RowKit
set_option linter.unusedSimpArgs false
set_option linter.unusedVariables false
set_option maxRecDepth 100000

section
variable {O : Helps} {n : Nat} {o : Tr AObj} {nx : Nat} {lg : List Nat} {w : Nat → Nat} {B : HB} {hs : HS} {kp kb ks : Nat} {bx : List Bool} {ups : Value} {cl : Int} {sa c : Nat}
theorem ptrf_eql {a : Addr} : binV Try.prog .eql 48 false true (.pointer (some a)) (.pointer none) = some (.bool false) := b_eql_ptr Try.underlying48
/-- Set that makes the variable anew -/
theorem fset_fresh (hO : Clear O) (hh : HeapIn o nx w B hs) (hG : HGood hs) (h : ProgIn o nx kp kb ks bx ups) {kf : Nat} {sv : List VV} (hf : FrIn o nx kf cl sa c sv) (wf : w kf = 0) (ws : w sa = 0) {k : Nat} (hk : k < 5) (v : VV) (hno : bx.getD k false = true → (sv.getD k (0, 0)).1 ≠ 9) (hcell : bx.getD k false = true → (cellO hs v).2.2 = 0) (hc : hs.pool.count < 65536) (hmade : hs.made < 4611686018427387904) (hn : hs.pool.sizes.length < n) :
    Got (oCall Try.prog [] O (n + 7) 12 [pV kp, .pointer (some ⟨B.i, 0, none⟩), .pointer (some ⟨kf, 0, none⟩), .int .i64 (.ofNat k), .agg #[.int .u8 v.1, .int .i64 v.2]] ⟨o, nx, lg⟩) (FrTo o nx lg w B (if bx.getD k false = true then (cellO hs v).1 else hs) kf cl (sv.set k (if bx.getD k false = true then (cellO hs v).2.1 else v))) := by
  have hltf := hf.ltf
  have hS := fun (X Y : AObj) (q : Nat) (lg : List Nat) => fslot_ok (n := n + 4) (o := (o.put nx (some X)).put (nx + 1) (some Y)) (nx := nx + (q + 2)) (lg := lg) hO (h.more (by omega) fun x hx => by (repeat (first | rw [qE] | rw [qF _ _ _ _ (by omega)]))) (hf.more (by omega) fun x hx => by (repeat (first | rw [qE] | rw [qF _ _ _ _ (by omega)]))) hk
  have hwnx : ∀ x, nx ≤ x → w x = 0 := fun x hx => by
    by_cases e : w x = 0
    · exact e
    · have := hh.wlt x e; omega
  have hfresh := fun (O1 : Tr AObj) (N1 : Nat) (L1 : List Nat) (hN : nx ≤ N1) (hold : ∀ x, x < nx → O1.get x = o.get x) => ffresh_ok (n := n) (o := O1) (nx := N1) (lg := L1) hO (hh.more hN hold) hG (h.more hN hold) (hf.more hN hold) wf ws hk v hcell hc hmade hn
  rw [y_fn (rs := [.tmp 10]) (hO _ (by decide)) Try.func12 rfl (by kernel_rfl) rfl rfl]
  have fin : ∀ (O1 o2 : Tr AObj) (N1 nx2 : Nat) (L1 lg2 : List Nat), nx ≤ N1 → (∀ x, x < nx → O1.get x = o.get x) → FrTo O1 N1 L1 w B (if bx.getD k false = true then (cellO hs v).1 else hs) kf cl (sv.set k (if bx.getD k false = true then (cellO hs v).2.1 else v)) (.int .i64 0, ⟨o2, nx2, lg2⟩) →
      FrTo o nx lg w B (if bx.getD k false = true then (cellO hs v).1 else hs) kf cl (sv.set k (if bx.getD k false = true then (cellO hs v).2.1 else v)) (leave ⟨o, nx, lg⟩ (.int .i64 0) ⟨o2, nx2, lg2⟩) := by
    rintro O1 o2 N1 nx2 L1 lg2 hN hold ⟨_, _, _, w', B', sa', heq, h1, h2, h3, h4, h5, h6, h7, h8, h9⟩
    cases heq
    refine loud_end h9 hltf fun l' hmo hin => ⟨_, _, _, w', B', sa', rfl, by omega, h2, h3, h4, by omega, h6, fun x hx hw0 => ?_, hmo, hin kf h9 hltf⟩
    have := h7 x (by omega) hw0
    exact ⟨this.1, fun hxk => (this.2 hxk).trans (hold x hx)⟩
  generalize hb : bx.getD k false = b at hS hno fin hfresh ⊢
  generalize sv.getD k (0, 0) = u at hS hno
  cases b with
  | true =>
    have hd := decide_eq_false (hno rfl)
    repeat (first | with_reducible (first | refine n_on ?_ | refine n_seq ?_ | refine s_else ?_ | refine n_t ?_ | refine n_gt ?_ | refine d_t ?_ | refine n_nil ?_ | refine d_nil ?_ | refine n_block ?_ | refine n_skip ?_ | refine n_bon ?_ | refine n_bback ?_ | refine n_back ?_ | refine n_out ?_ | refine n_bout rfl ?_ | refine n_bfar rfl ?_ | refine n_ret ?_ | refine n_exit ?_ | refine n_label ?_ | refine n_scope ?_ | refine n_son ?_ | refine n_sback ?_) | (with_reducible (first | apply n_region | apply d_region); (simp only [JV, JU, JW, Nat.reduceAdd, Nat.zero_add]; exact rfl)) | (with_reducible (first | apply s_op | apply n_guard | apply n_cond | apply d_guard | apply d_op | apply n_fin | apply n_finb); (simp (maxDischargeDepth := 6) only [sy3.1, zY, qG, qP, qQ, qR, qS, qT, rowAt, ↓jg, ↓ji, Nat.reduceAdd, Nat.reduceEqDiff, ne_eq, jG, Nat.reduceLT, if_true, ite_true, Int.reduceLE, Int.reduceLT, Int.reduceEq, Int.reduceNeg, Int.reduceAdd, Nat.reduceSub, if_false, ite_false, fs_12.1, pV, vv, hS, ptrf_eql, hd, kind_pure, kind_load, kind_fresh, kind_other, jg, ji, undef]; first | exact rfl | exact ⟨rfl, rfl, rfl, rfl⟩); try (with_reducible refine calmK_in ?_; decide +kernel)))
    refine s_do _ (by
      simp (maxDischargeDepth := 6) only [sy3.1, zY, qG, qP, qQ, qR, qS, qT, rowAt, ↓jg, ↓ji, Nat.reduceAdd, Nat.reduceEqDiff, ne_eq, jG, Nat.reduceLT, if_true, ite_true, Int.reduceLE, Int.reduceLT, Int.reduceEq, Int.reduceNeg, Int.reduceAdd, Nat.reduceSub, if_false, ite_false, fs_12.1]
      exact hfresh _ _ _ (by omega) fun x hx => by (repeat (first | rw [qE] | rw [qF _ _ _ _ (by omega)]))) ?_
    rintro v1 ⟨o2, nx2, lg2⟩ hr
    have hv1 : v1 = .int .i64 0 := by obtain ⟨_, _, _, _, _, _, e, _⟩ := hr; cases e; rfl
    subst hv1
    repeat (first | with_reducible (first | refine n_on ?_ | refine n_seq ?_ | refine s_else ?_ | refine n_t ?_ | refine n_gt ?_ | refine d_t ?_ | refine n_nil ?_ | refine d_nil ?_ | refine n_block ?_ | refine n_skip ?_ | refine n_bon ?_ | refine n_bback ?_ | refine n_back ?_ | refine n_out ?_ | refine n_bout rfl ?_ | refine n_bfar rfl ?_ | refine n_ret ?_ | refine n_exit ?_ | refine n_label ?_ | refine n_scope ?_ | refine n_son ?_ | refine n_sback ?_) | (with_reducible (first | apply n_region | apply d_region); (simp only [JV, JU, JW, Nat.reduceAdd, Nat.zero_add]; exact rfl)) | (with_reducible (first | apply s_op | apply n_guard | apply n_cond | apply d_guard | apply d_op | apply n_fin | apply n_finb); (simp (maxDischargeDepth := 6) only [sy3.1, zY, qG, qP, qQ, qR, qS, qT, rowAt, ↓jg, ↓ji, Nat.reduceAdd, Nat.reduceEqDiff, ne_eq, jG, Nat.reduceLT, if_true, ite_true, Int.reduceLE, Int.reduceLT, Int.reduceEq, Int.reduceNeg, Int.reduceAdd, Nat.reduceSub, if_false, ite_false, fs_12.1, hS, kind_pure, kind_load, kind_fresh, kind_other, jg, ji, undef]; first | exact rfl | exact ⟨rfl, rfl, rfl, rfl⟩); try (with_reducible refine calmK_in ?_; decide +kernel)))
    exact fin _ _ _ _ _ _ (by omega) (fun x hx => by (repeat (first | rw [qE] | rw [qF _ _ _ _ (by omega)]))) hr
  | false =>
    repeat (first | with_reducible (first | refine n_on ?_ | refine n_seq ?_ | refine s_else ?_ | refine n_t ?_ | refine n_gt ?_ | refine d_t ?_ | refine n_nil ?_ | refine d_nil ?_ | refine n_block ?_ | refine n_skip ?_ | refine n_bon ?_ | refine n_bback ?_ | refine n_back ?_ | refine n_out ?_ | refine n_bout rfl ?_ | refine n_bfar rfl ?_ | refine n_ret ?_ | refine n_exit ?_ | refine n_label ?_ | refine n_scope ?_ | refine n_son ?_ | refine n_sback ?_) | (with_reducible (first | apply n_region | apply d_region); (simp only [JV, JU, JW, Nat.reduceAdd, Nat.zero_add]; exact rfl)) | (with_reducible (first | apply s_op | apply n_guard | apply n_cond | apply d_guard | apply d_op | apply n_fin | apply n_finb); (simp (maxDischargeDepth := 6) only [sy3.1, zY, qG, qP, qQ, qR, qS, qT, rowAt, ↓jg, ↓ji, Nat.reduceAdd, Nat.reduceEqDiff, ne_eq, jG, Nat.reduceLT, if_true, ite_true, Int.reduceLE, Int.reduceLT, Int.reduceEq, Int.reduceNeg, Int.reduceAdd, Nat.reduceSub, if_false, ite_false, fs_12.1, pV, vv, hS, ptrf_eql, kind_pure, kind_load, kind_fresh, kind_other, jg, ji, undef]; first | exact rfl | exact ⟨rfl, rfl, rfl, rfl⟩); try (with_reducible refine calmK_in ?_; decide +kernel)))
    refine s_do _ (by
      simp (maxDischargeDepth := 6) only [sy3.1, zY, qG, qP, qQ, qR, qS, qT, rowAt, ↓jg, ↓ji, Nat.reduceAdd, Nat.reduceEqDiff, ne_eq, jG, Nat.reduceLT, if_true, ite_true, Int.reduceLE, Int.reduceLT, Int.reduceEq, Int.reduceNeg, Int.reduceAdd, Nat.reduceSub, if_false, ite_false, fs_12.1]
      exact hfresh _ _ _ (by omega) fun x hx => by (repeat (first | rw [qE] | rw [qF _ _ _ _ (by omega)]))) ?_
    rintro v1 ⟨o2, nx2, lg2⟩ hr
    have hv1 : v1 = .int .i64 0 := by obtain ⟨_, _, _, _, _, _, e, _⟩ := hr; cases e; rfl
    subst hv1
    repeat (first | with_reducible (first | refine n_on ?_ | refine n_seq ?_ | refine s_else ?_ | refine n_t ?_ | refine n_gt ?_ | refine d_t ?_ | refine n_nil ?_ | refine d_nil ?_ | refine n_block ?_ | refine n_skip ?_ | refine n_bon ?_ | refine n_bback ?_ | refine n_back ?_ | refine n_out ?_ | refine n_bout rfl ?_ | refine n_bfar rfl ?_ | refine n_ret ?_ | refine n_exit ?_ | refine n_label ?_ | refine n_scope ?_ | refine n_son ?_ | refine n_sback ?_) | (with_reducible (first | apply n_region | apply d_region); (simp only [JV, JU, JW, Nat.reduceAdd, Nat.zero_add]; exact rfl)) | (with_reducible (first | apply s_op | apply n_guard | apply n_cond | apply d_guard | apply d_op | apply n_fin | apply n_finb); (simp (maxDischargeDepth := 6) only [sy3.1, zY, qG, qP, qQ, qR, qS, qT, rowAt, ↓jg, ↓ji, Nat.reduceAdd, Nat.reduceEqDiff, ne_eq, jG, Nat.reduceLT, if_true, ite_true, Int.reduceLE, Int.reduceLT, Int.reduceEq, Int.reduceNeg, Int.reduceAdd, Nat.reduceSub, if_false, ite_false, fs_12.1, hS, kind_pure, kind_load, kind_fresh, kind_other, jg, ji, undef]; first | exact rfl | exact ⟨rfl, rfl, rfl, rfl⟩); try (with_reducible refine calmK_in ?_; decide +kernel)))
    exact fin _ _ _ _ _ _ (by omega) (fun x hx => by (repeat (first | rw [qE] | rw [qF _ _ _ _ (by omega)]))) hr
set_option maxHeartbeats 16000000 in
/-- Set that puts something into the variable's cell -/
theorem fset_store (hO : Clear O) (hh : HeapIn o nx w B hs) (hG : HGood hs) (h : ProgIn o nx kp kb ks bx ups) {kf : Nat} {sv : List VV} (hf : FrIn o nx kf cl sa c sv) {k : Nat} (hk : k < 5) (v : VV) (hb : bx.getD k false = true) (h9 : (sv.getD k (0, 0)).1 = 9) (hfo : (findO hs (sv.getD k (0, 0))).isSome = true) :
    Got (oCall Try.prog [] O (n + 5) 12 [pV kp, .pointer (some ⟨B.i, 0, none⟩), .pointer (some ⟨kf, 0, none⟩), .int .i64 (.ofNat k), .agg #[.int .u8 v.1, .int .i64 v.2]] ⟨o, nx, lg⟩) (HTo o nx lg w B hs (storeO hs (sv.getD k (0, 0)) v).1 (.int .i64 (storeO hs (sv.getD k (0, 0)) v).2)) := by
  have hltf := hf.ltf
  have hS := fun (X Y : AObj) (q : Nat) (lg : List Nat) => fslot_ok (n := n + 2) (o := (o.put nx (some X)).put (nx + 1) (some Y)) (nx := nx + (q + 2)) (lg := lg) hO (h.more (by omega) fun x hx => by (repeat (first | rw [qE] | rw [qF _ _ _ _ (by omega)]))) (hf.more (by omega) fun x hx => by (repeat (first | rw [qE] | rw [qF _ _ _ _ (by omega)]))) hk
  rw [hb] at hS
  generalize sv.getD k (0, 0) = u at hS h9 hfo ⊢
  have hd := decide_eq_true h9
  have hHas := fun (O1 : Tr AObj) (N1 : Nat) (L1 : List Nat) (hN : nx ≤ N1) (hold : ∀ x, x < nx → O1.get x = o.get x) => has_ok (n := n + 1) (o := O1) (nx := N1) (lg := L1) hO (hh.more hN hold) u
  rw [hfo] at hHas
  rw [y_fn (rs := [.tmp 10]) (hO _ (by decide)) Try.func12 rfl (by kernel_rfl) rfl rfl]
  repeat (first | with_reducible (first | refine n_on ?_ | refine n_seq ?_ | refine s_else ?_ | refine n_t ?_ | refine n_gt ?_ | refine d_t ?_ | refine n_nil ?_ | refine d_nil ?_ | refine n_block ?_ | refine n_skip ?_ | refine n_bon ?_ | refine n_bback ?_ | refine n_back ?_ | refine n_out ?_ | refine n_bout rfl ?_ | refine n_bfar rfl ?_ | refine n_ret ?_ | refine n_exit ?_ | refine n_label ?_ | refine n_scope ?_ | refine n_son ?_ | refine n_sback ?_) | (with_reducible (first | apply n_region | apply d_region); (simp only [JV, JU, JW, Nat.reduceAdd, Nat.zero_add]; exact rfl)) | (with_reducible (first | apply s_op | apply n_guard | apply n_cond | apply d_guard | apply d_op | apply n_fin | apply n_finb); (simp (maxDischargeDepth := 6) only [sy3.1, zY, qG, qP, qQ, qR, qS, qT, rowAt, ↓jg, ↓ji, Nat.reduceAdd, Nat.reduceEqDiff, ne_eq, jG, Nat.reduceLT, if_true, ite_true, Int.reduceLE, Int.reduceLT, Int.reduceEq, Int.reduceNeg, Int.reduceAdd, Nat.reduceSub, if_false, ite_false, fs_12.1, pV, vv, hS, ptrf_eql, hd, kind_pure, kind_load, kind_fresh, kind_other, jg, ji, undef]; first | exact rfl | exact ⟨rfl, rfl, rfl, rfl⟩); try (with_reducible refine calmK_in ?_; decide +kernel)))
  refine s_do _ (by
    simp (maxDischargeDepth := 6) only [sy3.1, zY, qG, qP, qQ, qR, qS, qT, rowAt, ↓jg, ↓ji, Nat.reduceAdd, Nat.reduceEqDiff, ne_eq, jG, Nat.reduceLT, if_true, ite_true, Int.reduceLE, Int.reduceLT, Int.reduceEq, Int.reduceNeg, Int.reduceAdd, Nat.reduceSub, if_false, ite_false, fs_12.1]
    exact got_eq (hHas _ _ _ (by omega) fun x hx => by (repeat (first | rw [qE] | rw [qF _ _ _ _ (by omega)])))) ?_
  rintro _ _ heq
  cases heq
  repeat (first | with_reducible (first | refine n_on ?_ | refine n_seq ?_ | refine s_else ?_ | refine n_t ?_ | refine n_gt ?_ | refine d_t ?_ | refine n_nil ?_ | refine d_nil ?_ | refine n_block ?_ | refine n_skip ?_ | refine n_bon ?_ | refine n_bback ?_ | refine n_back ?_ | refine n_out ?_ | refine n_bout rfl ?_ | refine n_bfar rfl ?_ | refine n_ret ?_ | refine n_exit ?_ | refine n_label ?_ | refine n_scope ?_ | refine n_son ?_ | refine n_sback ?_) | (with_reducible (first | apply n_region | apply d_region); (simp only [JV, JU, JW, Nat.reduceAdd, Nat.zero_add]; exact rfl)) | (with_reducible (first | apply s_op | apply n_guard | apply n_cond | apply d_guard | apply d_op | apply n_fin | apply n_finb); (simp (maxDischargeDepth := 6) only [sy3.1, zY, qG, qP, qQ, qR, qS, qT, rowAt, ↓jg, ↓ji, Nat.reduceAdd, Nat.reduceEqDiff, ne_eq, jG, Nat.reduceLT, if_true, ite_true, Int.reduceLE, Int.reduceLT, Int.reduceEq, Int.reduceNeg, Int.reduceAdd, Nat.reduceSub, if_false, ite_false, fs_12.1, hS, kind_pure, kind_load, kind_fresh, kind_other, jg, ji, undef]; first | exact rfl | exact ⟨rfl, rfl, rfl, rfl⟩); try (with_reducible refine calmK_in ?_; decide +kernel)))
  refine s_do _ (by
    simp (maxDischargeDepth := 6) only [sy3.1, zY, qG, qP, qQ, qR, qS, qT, rowAt, ↓jg, ↓ji, Nat.reduceAdd, Nat.reduceEqDiff, ne_eq, jG, Nat.reduceLT, if_true, ite_true, Int.reduceLE, Int.reduceLT, Int.reduceEq, Int.reduceNeg, Int.reduceAdd, Nat.reduceSub, if_false, ite_false, fs_12.1]
    exact store_ok hO (hh.more (by omega) fun x hx => by (repeat (first | rw [qE] | rw [qF _ _ _ _ (by omega)]))) hG u v) ?_
  rintro v1 ⟨o2, nx2, lg2⟩ ⟨_, _, _, w', B', heq, hn2, hH2, hB, hfr2, hmo2, hl⟩
  cases heq
  repeat (first | with_reducible (first | refine n_on ?_ | refine n_seq ?_ | refine s_else ?_ | refine n_t ?_ | refine n_gt ?_ | refine d_t ?_ | refine n_nil ?_ | refine d_nil ?_ | refine n_block ?_ | refine n_skip ?_ | refine n_bon ?_ | refine n_bback ?_ | refine n_back ?_ | refine n_out ?_ | refine n_bout rfl ?_ | refine n_bfar rfl ?_ | refine n_ret ?_ | refine n_exit ?_ | refine n_label ?_ | refine n_scope ?_ | refine n_son ?_ | refine n_sback ?_) | (with_reducible (first | apply n_region | apply d_region); (simp only [JV, JU, JW, Nat.reduceAdd, Nat.zero_add]; exact rfl)) | (with_reducible (first | apply s_op | apply n_guard | apply n_cond | apply d_guard | apply d_op | apply n_fin | apply n_finb); (simp (maxDischargeDepth := 6) only [sy3.1, zY, qG, qP, qQ, qR, qS, qT, rowAt, ↓jg, ↓ji, Nat.reduceAdd, Nat.reduceEqDiff, ne_eq, jG, Nat.reduceLT, if_true, ite_true, Int.reduceLE, Int.reduceLT, Int.reduceEq, Int.reduceNeg, Int.reduceAdd, Nat.reduceSub, if_false, ite_false, fs_12.1, hS, kind_pure, kind_load, kind_fresh, kind_other, jg, ji, undef]; first | exact rfl | exact ⟨rfl, rfl, rfl, rfl⟩); try (with_reducible refine calmK_in ?_; decide +kernel)))
  refine hto_end hh (w' := w') (B' := B') (by rfl) (hH2.more (by omega) fun _ _ => rfl) (by omega) hB (fun x hx hw0 => ?_) ?_
  · have := hfr2 x (by omega) hw0
    refine ⟨?_, this.2⟩
    rw [this.1]; (repeat (first | rw [qE] | rw [qF _ _ _ _ (by omega)]))
  · rcases hl with ⟨x, hx, hwx⟩ | ⟨_, _, rfl, _, _, e⟩
    · exact .inl ⟨x, hx, hwx⟩
    · exact .inr ⟨e, by simp only [all_relogL, js, ju, List.all_nil, jt, Bool.and_self]⟩
end
end Go.Proofs.Ytckahbnkdiamjaa
