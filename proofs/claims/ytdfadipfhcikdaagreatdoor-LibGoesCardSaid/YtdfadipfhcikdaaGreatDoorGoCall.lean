/- lib: Call at pairs, next, ipairs, ipairs.step. Written by a program (gocall.py). -/
import Derived.Test.YtdfadipfhcikdaaGreatDoorGoTabP
namespace Go.Proofs.YtdfadipfhcikdaaGreatDoor
open Go.RowKit
set_option linter.unusedSimpArgs false
set_option linter.unusedVariables false
set_option maxRecDepth 100000

section
variable {O : Helps} {n : Nat} {o : Tr AObj} {nx : Nat} {lg : List Nat} {w : Nat → Nat} {B : HB} {hs : HS}
set_option maxHeartbeats 64000000 in
theorem call_pairs (hO : Clear O) (h : HeapIn o nx w B hs) {j c e : Nat} {d : Int} (hj : j < nx) (hr : o.get j = some (.row [.int .u8 5, .int .i64 d] e 2 true)) (hf : (findO hs (5, d)).isSome = true)  :
    Got (oCall Tryz.prog [] O (n + 8) 8 [.pointer (some ⟨B.i, 0, none⟩), .int .i64 12, .slice (some ⟨j, 0, none⟩) 1 c] ⟨o, nx, lg⟩) (DoneTo o nx lg [(7, 11), (5, d), (0, 0)]) := by
  rw [y_fn (rs := [.cell 6 37]) (hO _ (by decide)) Tryz.func8 rfl (by kernel_rfl) rfl rfl]
  refine call_head (n := n) (k := 11) hO (by decide) nr_11 (hp := some ⟨B.i, 0, none⟩) (j := j) (m := 1) (c := c) fun e' o' nx' lg' S hlg => ?_
  obtain ⟨t8, mm, c1, c2, c3, c4, g8, g9, r8, rm⟩ := S.ex
  have g2 := S.e2; have g3 := S.e3; have g6 := S.e6; have r3 := S.r3; have r6 := S.r6; have hle := S.le; have hold := S.old
  have hlk : ∀ nx lg, aLookup Tryz.prog 77 (.map (some mm)) str_pairs false ⟨o', nx, lg⟩ = some .nilFunc := fun nx lg => mn_pairs _ _ _ _ _ _ _ _ _ _ _ _ _ o' nx lg mm rm
  have hrow : o'.get j = some (.row [.int .u8 5, .int .i64 d] e 2 true) := (hold j hj).trans hr
  have hT := fun (q : Nat) (lg : List Nat) => table0_ok (n := n + 3) (o := o') (nx := nx' + q) (lg := lg) (w := w) (B := B) (hs := hs) hO (h.more (by omega) hold) (match str_pairs with | .string s => s | _ => ⟨#[]⟩) (j := j) (m := 1) (c := c) (by omega) (by decide) hrow hf
  have hP := hp_pairs (n := n + 5) hO
  simp only [str_pairs] at *
  show Got (rCode _ _ _ (Code.seq (Code.seq _ (Code.seq _ (Code.cond _ _ _))) (Code.seq (Code.block _ _) (Code.seq _ Code.ret))) _ _) _
  repeat (first | with_reducible (first | refine n_on ?_ | refine n_seq ?_ | refine s_else ?_ | refine n_t ?_ | refine n_gt ?_ | refine d_t ?_ | refine n_nil ?_ | refine d_nil ?_ | refine n_block ?_ | refine n_skip ?_ | refine n_bon ?_ | refine n_bback ?_ | refine n_back ?_ | refine n_out ?_ | refine n_bout rfl ?_ | refine n_bfar rfl ?_ | refine n_ret ?_ | refine n_exit ?_ | refine n_label ?_ | refine n_scope ?_ | refine n_son ?_ | refine n_sback ?_) | (with_reducible (first | apply n_region | apply d_region); (simp only [JV, JU, JW, Nat.reduceAdd, Nat.zero_add]; exact rfl)) | (with_reducible (first | apply s_op | apply n_guard | apply n_cond | apply d_guard | apply d_op | apply n_fin | apply n_finb); (simp (maxDischargeDepth := 6) only [sy3.1, zY, qG, qP, qQ, qR, qS, qT, rowAt, ↓jg, ↓ji, Nat.reduceAdd, Nat.reduceEqDiff, ne_eq, jG, Nat.reduceLT, if_true, ite_true, Int.reduceLE, Int.reduceLT, Int.reduceEq, Int.reduceNeg, Int.reduceAdd, Nat.reduceSub, if_false, ite_false, fs_8.1, b_neq_fn Tryz.underlying69, g2, g3, g6, g8, g9, r3, r6, r8, hlk, hle, c1, c2, c4, hP, fn0_neq, se_pairs_pcall, se_pairs_ipairs, se_pairs_rawlen, hT, kind_pure, kind_load, kind_fresh, kind_other, jg, ji, undef]; first | exact rfl | exact ⟨rfl, rfl, rfl, rfl⟩); try (with_reducible refine calmK_in ?_; decide +kernel)))
  refine s_do _ (by
    simp (maxDischargeDepth := 6) only [sy3.1, zY, qG, qP, qQ, qR, qS, qT, rowAt, ↓jg, ↓ji, Nat.reduceAdd, Nat.reduceEqDiff, ne_eq, jG, Nat.reduceLT, if_true, ite_true, Int.reduceLE, Int.reduceLT, Int.reduceEq, Int.reduceNeg, Int.reduceAdd, Nat.reduceSub, if_false, ite_false, fs_8.1, b_neq_fn Tryz.underlying69, g8, r8]
    exact ontable_pairs (n := n + 3) hO (by omega) hrow) ?_
  rintro v1 H1 ⟨q, o1, nx1, heq, hq, hq2, hrq, hfr⟩
  cases heq
  have g1 : o1.get (nx + 1) = some (.row [.int .u8 0, .slice none 0 0, .bool false, .string ⟨#[]⟩] 37 0 true) := by rw [hfr (nx + 1) (by omega)]; first | exact r6 | ((repeat (first | rw [qE] | rw [qF _ _ _ _ (by omega)])); exact r6)
  have l1 : nx + 1 < nx1 := by omega
  repeat (first | with_reducible (first | refine n_on ?_ | refine n_seq ?_ | refine s_else ?_ | refine n_t ?_ | refine n_gt ?_ | refine d_t ?_ | refine n_nil ?_ | refine d_nil ?_ | refine n_block ?_ | refine n_skip ?_ | refine n_bon ?_ | refine n_bback ?_ | refine n_back ?_ | refine n_out ?_ | refine n_bout rfl ?_ | refine n_bfar rfl ?_ | refine n_ret ?_ | refine n_exit ?_ | refine n_label ?_ | refine n_scope ?_ | refine n_son ?_ | refine n_sback ?_) | (with_reducible (first | apply n_region | apply d_region); (simp only [JV, JU, JW, Nat.reduceAdd, Nat.zero_add]; exact rfl)) | (with_reducible (first | apply s_op | apply n_guard | apply n_cond | apply d_guard | apply d_op | apply n_fin | apply n_finb); (simp (maxDischargeDepth := 6) only [sy3.1, zY, qG, qP, qQ, qR, qS, qT, rowAt, ↓jg, ↓ji, Nat.reduceAdd, Nat.reduceEqDiff, ne_eq, jG, Nat.reduceLT, if_true, ite_true, Int.reduceLE, Int.reduceLT, Int.reduceEq, Int.reduceNeg, Int.reduceAdd, Nat.reduceSub, if_false, ite_false, fs_8.1, b_neq_fn Tryz.underlying69, g1, l1, g6, toldV, kind_pure, kind_load, kind_fresh, kind_other, jg, ji, undef]; first | exact rfl | exact ⟨rfl, rfl, rfl, rfl⟩); try (with_reducible refine calmK_in ?_; decide +kernel)))
  refine done_end ?_ (by omega) (by omega) (by (repeat (first | rw [qE] | rw [qF _ _ _ _ (by omega)])); exact hrq) (fun x hx => by (repeat (first | rw [qE] | rw [qF _ _ _ _ (by omega)])); rw [hfr x (by omega)]; first | exact hold x hx | ((repeat (first | rw [qE] | rw [qF _ _ _ _ (by omega)])); exact hold x hx))
  rw [List.all_eq_true]
  intro x hx
  simp only [in_note, in_relogL, List.not_mem_nil, or_false, false_or, or_self] at hx
  rw [Nat.ble_eq]
  rcases hx with hx | hx | hx | hx | hx <;> first | omega | (have := hlg x hx; omega)
set_option maxHeartbeats 64000000 in
theorem call_next_end (hO : Clear O) (h : HeapIn o nx w B hs) {j c e : Nat} {d k1 k2 a1 a2 b1 b2 : Int} {ob : Ob} (hj : j < nx) (hr : o.get j = some (.row [.int .u8 5, .int .i64 d, .int .u8 k1, .int .i64 k2] e 2 true)) (hf : (findO hs (5, d)).isSome = true) (ho : ofO hs (5, d) 5 = some ob) (hn : ob.tab.length ≤ n) (hbig : ob.tab.length < 4611686018427387904) (hx : nextL ob.tab (k1, k2) = ((a1, a2), (b1, b2), 0)) (h0 : a1 = 0) :
    Got (oCall Tryz.prog [] O (n + 8) 8 [.pointer (some ⟨B.i, 0, none⟩), .int .i64 11, .slice (some ⟨j, 0, none⟩) 2 c] ⟨o, nx, lg⟩) (DoneTo o nx lg [(a1, a2)]) := by
  rw [y_fn (rs := [.cell 6 37]) (hO _ (by decide)) Tryz.func8 rfl (by kernel_rfl) rfl rfl]
  refine call_head (n := n) (k := 10) hO (by decide) nr_10 (hp := some ⟨B.i, 0, none⟩) (j := j) (m := 2) (c := c) fun e' o' nx' lg' S hlg => ?_
  obtain ⟨t8, mm, c1, c2, c3, c4, g8, g9, r8, rm⟩ := S.ex
  have g2 := S.e2; have g3 := S.e3; have g6 := S.e6; have r3 := S.r3; have r6 := S.r6; have hle := S.le; have hold := S.old
  have hlk : ∀ nx lg, aLookup Tryz.prog 77 (.map (some mm)) str_next false ⟨o', nx, lg⟩ = some .nilFunc := fun nx lg => mn_next _ _ _ _ _ _ _ _ _ _ _ _ _ o' nx lg mm rm
  have hrow : o'.get j = some (.row [.int .u8 5, .int .i64 d, .int .u8 k1, .int .i64 k2] e 2 true) := (hold j hj).trans hr
  have hT := fun (q : Nat) (lg : List Nat) => table0_ok (n := n + 3) (o := o') (nx := nx' + q) (lg := lg) (w := w) (B := B) (hs := hs) hO (h.more (by omega) hold) (match str_next with | .string s => s | _ => ⟨#[]⟩) (j := j) (m := 2) (c := c) (by omega) (by decide) hrow hf
  have hP := hp_next (n := n + 5) hO
  simp only [str_next] at *
  show Got (rCode _ _ _ (Code.seq (Code.seq _ (Code.seq _ (Code.cond _ _ _))) (Code.seq (Code.block _ _) (Code.seq _ Code.ret))) _ _) _
  repeat (first | with_reducible (first | refine n_on ?_ | refine n_seq ?_ | refine s_else ?_ | refine n_t ?_ | refine n_gt ?_ | refine d_t ?_ | refine n_nil ?_ | refine d_nil ?_ | refine n_block ?_ | refine n_skip ?_ | refine n_bon ?_ | refine n_bback ?_ | refine n_back ?_ | refine n_out ?_ | refine n_bout rfl ?_ | refine n_bfar rfl ?_ | refine n_ret ?_ | refine n_exit ?_ | refine n_label ?_ | refine n_scope ?_ | refine n_son ?_ | refine n_sback ?_) | (with_reducible (first | apply n_region | apply d_region); (simp only [JV, JU, JW, Nat.reduceAdd, Nat.zero_add]; exact rfl)) | (with_reducible (first | apply s_op | apply n_guard | apply n_cond | apply d_guard | apply d_op | apply n_fin | apply n_finb); (simp (maxDischargeDepth := 6) only [sy3.1, zY, qG, qP, qQ, qR, qS, qT, rowAt, ↓jg, ↓ji, Nat.reduceAdd, Nat.reduceEqDiff, ne_eq, jG, Nat.reduceLT, if_true, ite_true, Int.reduceLE, Int.reduceLT, Int.reduceEq, Int.reduceNeg, Int.reduceAdd, Nat.reduceSub, if_false, ite_false, fs_8.1, b_neq_fn Tryz.underlying69, g2, g3, g6, g8, g9, r3, r6, r8, hlk, hle, c1, c2, c4, hP, fn0_neq, se_next_pcall, se_next_ipairs, se_next_rawlen, hT, kind_pure, kind_load, kind_fresh, kind_other, jg, ji, undef]; first | exact rfl | exact ⟨rfl, rfl, rfl, rfl⟩); try (with_reducible refine calmK_in ?_; decide +kernel)))
  refine s_do _ (by
    simp (maxDischargeDepth := 6) only [sy3.1, zY, qG, qP, qQ, qR, qS, qT, rowAt, ↓jg, ↓ji, Nat.reduceAdd, Nat.reduceEqDiff, ne_eq, jG, Nat.reduceLT, if_true, ite_true, Int.reduceLE, Int.reduceLT, Int.reduceEq, Int.reduceNeg, Int.reduceAdd, Nat.reduceSub, if_false, ite_false, fs_8.1, b_neq_fn Tryz.underlying69, g8, r8]
    exact ontable_next_end (n := n + 1) hO (h.more (by omega) hold) (by omega) hrow ho (by omega) hbig hx h0) ?_
  rintro v1 H1 ⟨q, o1, nx1, heq, hq, hq2, hrq, hfr⟩
  cases heq
  have g1 : o1.get (nx + 1) = some (.row [.int .u8 0, .slice none 0 0, .bool false, .string ⟨#[]⟩] 37 0 true) := by rw [hfr (nx + 1) (by omega)]; first | exact r6 | ((repeat (first | rw [qE] | rw [qF _ _ _ _ (by omega)])); exact r6)
  have l1 : nx + 1 < nx1 := by omega
  repeat (first | with_reducible (first | refine n_on ?_ | refine n_seq ?_ | refine s_else ?_ | refine n_t ?_ | refine n_gt ?_ | refine d_t ?_ | refine n_nil ?_ | refine d_nil ?_ | refine n_block ?_ | refine n_skip ?_ | refine n_bon ?_ | refine n_bback ?_ | refine n_back ?_ | refine n_out ?_ | refine n_bout rfl ?_ | refine n_bfar rfl ?_ | refine n_ret ?_ | refine n_exit ?_ | refine n_label ?_ | refine n_scope ?_ | refine n_son ?_ | refine n_sback ?_) | (with_reducible (first | apply n_region | apply d_region); (simp only [JV, JU, JW, Nat.reduceAdd, Nat.zero_add]; exact rfl)) | (with_reducible (first | apply s_op | apply n_guard | apply n_cond | apply d_guard | apply d_op | apply n_fin | apply n_finb); (simp (maxDischargeDepth := 6) only [sy3.1, zY, qG, qP, qQ, qR, qS, qT, rowAt, ↓jg, ↓ji, Nat.reduceAdd, Nat.reduceEqDiff, ne_eq, jG, Nat.reduceLT, if_true, ite_true, Int.reduceLE, Int.reduceLT, Int.reduceEq, Int.reduceNeg, Int.reduceAdd, Nat.reduceSub, if_false, ite_false, fs_8.1, b_neq_fn Tryz.underlying69, g1, l1, g6, toldV, kind_pure, kind_load, kind_fresh, kind_other, jg, ji, undef]; first | exact rfl | exact ⟨rfl, rfl, rfl, rfl⟩); try (with_reducible refine calmK_in ?_; decide +kernel)))
  refine done_end ?_ (by omega) (by omega) (by (repeat (first | rw [qE] | rw [qF _ _ _ _ (by omega)])); exact hrq) (fun x hx => by (repeat (first | rw [qE] | rw [qF _ _ _ _ (by omega)])); rw [hfr x (by omega)]; first | exact hold x hx | ((repeat (first | rw [qE] | rw [qF _ _ _ _ (by omega)])); exact hold x hx))
  rw [List.all_eq_true]
  intro x hx
  simp only [in_note, in_relogL, List.not_mem_nil, or_false, false_or, or_self] at hx
  rw [Nat.ble_eq]
  rcases hx with hx | hx | hx | hx | hx <;> first | omega | (have := hlg x hx; omega)
set_option maxHeartbeats 64000000 in
theorem call_next_go (hO : Clear O) (h : HeapIn o nx w B hs) {j c e : Nat} {d k1 k2 a1 a2 b1 b2 : Int} {ob : Ob} (hj : j < nx) (hr : o.get j = some (.row [.int .u8 5, .int .i64 d, .int .u8 k1, .int .i64 k2] e 2 true)) (hf : (findO hs (5, d)).isSome = true) (ho : ofO hs (5, d) 5 = some ob) (hn : ob.tab.length ≤ n) (hbig : ob.tab.length < 4611686018427387904) (hx : nextL ob.tab (k1, k2) = ((a1, a2), (b1, b2), 0)) (h0 : a1 ≠ 0) :
    Got (oCall Tryz.prog [] O (n + 8) 8 [.pointer (some ⟨B.i, 0, none⟩), .int .i64 11, .slice (some ⟨j, 0, none⟩) 2 c] ⟨o, nx, lg⟩) (DoneTo o nx lg [(a1, a2), (b1, b2)]) := by
  rw [y_fn (rs := [.cell 6 37]) (hO _ (by decide)) Tryz.func8 rfl (by kernel_rfl) rfl rfl]
  refine call_head (n := n) (k := 10) hO (by decide) nr_10 (hp := some ⟨B.i, 0, none⟩) (j := j) (m := 2) (c := c) fun e' o' nx' lg' S hlg => ?_
  obtain ⟨t8, mm, c1, c2, c3, c4, g8, g9, r8, rm⟩ := S.ex
  have g2 := S.e2; have g3 := S.e3; have g6 := S.e6; have r3 := S.r3; have r6 := S.r6; have hle := S.le; have hold := S.old
  have hlk : ∀ nx lg, aLookup Tryz.prog 77 (.map (some mm)) str_next false ⟨o', nx, lg⟩ = some .nilFunc := fun nx lg => mn_next _ _ _ _ _ _ _ _ _ _ _ _ _ o' nx lg mm rm
  have hrow : o'.get j = some (.row [.int .u8 5, .int .i64 d, .int .u8 k1, .int .i64 k2] e 2 true) := (hold j hj).trans hr
  have hT := fun (q : Nat) (lg : List Nat) => table0_ok (n := n + 3) (o := o') (nx := nx' + q) (lg := lg) (w := w) (B := B) (hs := hs) hO (h.more (by omega) hold) (match str_next with | .string s => s | _ => ⟨#[]⟩) (j := j) (m := 2) (c := c) (by omega) (by decide) hrow hf
  have hP := hp_next (n := n + 5) hO
  simp only [str_next] at *
  show Got (rCode _ _ _ (Code.seq (Code.seq _ (Code.seq _ (Code.cond _ _ _))) (Code.seq (Code.block _ _) (Code.seq _ Code.ret))) _ _) _
  repeat (first | with_reducible (first | refine n_on ?_ | refine n_seq ?_ | refine s_else ?_ | refine n_t ?_ | refine n_gt ?_ | refine d_t ?_ | refine n_nil ?_ | refine d_nil ?_ | refine n_block ?_ | refine n_skip ?_ | refine n_bon ?_ | refine n_bback ?_ | refine n_back ?_ | refine n_out ?_ | refine n_bout rfl ?_ | refine n_bfar rfl ?_ | refine n_ret ?_ | refine n_exit ?_ | refine n_label ?_ | refine n_scope ?_ | refine n_son ?_ | refine n_sback ?_) | (with_reducible (first | apply n_region | apply d_region); (simp only [JV, JU, JW, Nat.reduceAdd, Nat.zero_add]; exact rfl)) | (with_reducible (first | apply s_op | apply n_guard | apply n_cond | apply d_guard | apply d_op | apply n_fin | apply n_finb); (simp (maxDischargeDepth := 6) only [sy3.1, zY, qG, qP, qQ, qR, qS, qT, rowAt, ↓jg, ↓ji, Nat.reduceAdd, Nat.reduceEqDiff, ne_eq, jG, Nat.reduceLT, if_true, ite_true, Int.reduceLE, Int.reduceLT, Int.reduceEq, Int.reduceNeg, Int.reduceAdd, Nat.reduceSub, if_false, ite_false, fs_8.1, b_neq_fn Tryz.underlying69, g2, g3, g6, g8, g9, r3, r6, r8, hlk, hle, c1, c2, c4, hP, fn0_neq, se_next_pcall, se_next_ipairs, se_next_rawlen, hT, kind_pure, kind_load, kind_fresh, kind_other, jg, ji, undef]; first | exact rfl | exact ⟨rfl, rfl, rfl, rfl⟩); try (with_reducible refine calmK_in ?_; decide +kernel)))
  refine s_do _ (by
    simp (maxDischargeDepth := 6) only [sy3.1, zY, qG, qP, qQ, qR, qS, qT, rowAt, ↓jg, ↓ji, Nat.reduceAdd, Nat.reduceEqDiff, ne_eq, jG, Nat.reduceLT, if_true, ite_true, Int.reduceLE, Int.reduceLT, Int.reduceEq, Int.reduceNeg, Int.reduceAdd, Nat.reduceSub, if_false, ite_false, fs_8.1, b_neq_fn Tryz.underlying69, g8, r8]
    exact ontable_next_go (n := n + 1) hO (h.more (by omega) hold) (by omega) hrow ho (by omega) hbig hx h0) ?_
  rintro v1 H1 ⟨q, o1, nx1, heq, hq, hq2, hrq, hfr⟩
  cases heq
  have g1 : o1.get (nx + 1) = some (.row [.int .u8 0, .slice none 0 0, .bool false, .string ⟨#[]⟩] 37 0 true) := by rw [hfr (nx + 1) (by omega)]; first | exact r6 | ((repeat (first | rw [qE] | rw [qF _ _ _ _ (by omega)])); exact r6)
  have l1 : nx + 1 < nx1 := by omega
  repeat (first | with_reducible (first | refine n_on ?_ | refine n_seq ?_ | refine s_else ?_ | refine n_t ?_ | refine n_gt ?_ | refine d_t ?_ | refine n_nil ?_ | refine d_nil ?_ | refine n_block ?_ | refine n_skip ?_ | refine n_bon ?_ | refine n_bback ?_ | refine n_back ?_ | refine n_out ?_ | refine n_bout rfl ?_ | refine n_bfar rfl ?_ | refine n_ret ?_ | refine n_exit ?_ | refine n_label ?_ | refine n_scope ?_ | refine n_son ?_ | refine n_sback ?_) | (with_reducible (first | apply n_region | apply d_region); (simp only [JV, JU, JW, Nat.reduceAdd, Nat.zero_add]; exact rfl)) | (with_reducible (first | apply s_op | apply n_guard | apply n_cond | apply d_guard | apply d_op | apply n_fin | apply n_finb); (simp (maxDischargeDepth := 6) only [sy3.1, zY, qG, qP, qQ, qR, qS, qT, rowAt, ↓jg, ↓ji, Nat.reduceAdd, Nat.reduceEqDiff, ne_eq, jG, Nat.reduceLT, if_true, ite_true, Int.reduceLE, Int.reduceLT, Int.reduceEq, Int.reduceNeg, Int.reduceAdd, Nat.reduceSub, if_false, ite_false, fs_8.1, b_neq_fn Tryz.underlying69, g1, l1, g6, toldV, kind_pure, kind_load, kind_fresh, kind_other, jg, ji, undef]; first | exact rfl | exact ⟨rfl, rfl, rfl, rfl⟩); try (with_reducible refine calmK_in ?_; decide +kernel)))
  refine done_end ?_ (by omega) (by omega) (by (repeat (first | rw [qE] | rw [qF _ _ _ _ (by omega)])); exact hrq) (fun x hx => by (repeat (first | rw [qE] | rw [qF _ _ _ _ (by omega)])); rw [hfr x (by omega)]; first | exact hold x hx | ((repeat (first | rw [qE] | rw [qF _ _ _ _ (by omega)])); exact hold x hx))
  rw [List.all_eq_true]
  intro x hx
  simp only [in_note, in_relogL, List.not_mem_nil, or_false, false_or, or_self] at hx
  rw [Nat.ble_eq]
  rcases hx with hx | hx | hx | hx | hx <;> first | omega | (have := hlg x hx; omega)
set_option maxHeartbeats 64000000 in
theorem call_step_go (hO : Clear O) (h : HeapIn o nx w B hs) {j c e : Nat} {d k2 b1 b2 : Int} (hj : j < nx) (hr : o.get j = some (.row [.int .u8 5, .int .i64 d, .int .u8 3, .int .i64 k2] e 2 true)) (hf : (findO hs (5, d)).isSome = true) (hk : -1000000 < k2 ∧ k2 < 1000000) (hx : getO hs (5, d) (3, k2 + 1) = (b1, b2)) (h0 : b1 ≠ 0) :
    Got (oCall Tryz.prog [] O (n + 8) 8 [.pointer (some ⟨B.i, 0, none⟩), .int .i64 32, .slice (some ⟨j, 0, none⟩) 2 c] ⟨o, nx, lg⟩) (DoneTo o nx lg [(3, k2 + 1), (b1, b2)]) := by
  rw [y_fn (rs := [.cell 6 37]) (hO _ (by decide)) Tryz.func8 rfl (by kernel_rfl) rfl rfl]
  refine call_head (n := n) (k := 31) hO (by decide) nr_31 (hp := some ⟨B.i, 0, none⟩) (j := j) (m := 2) (c := c) fun e' o' nx' lg' S hlg => ?_
  obtain ⟨t8, mm, c1, c2, c3, c4, g8, g9, r8, rm⟩ := S.ex
  have g2 := S.e2; have g3 := S.e3; have g6 := S.e6; have r3 := S.r3; have r6 := S.r6; have hle := S.le; have hold := S.old
  have hlk : ∀ nx lg, aLookup Tryz.prog 77 (.map (some mm)) str_ipairs_step false ⟨o', nx, lg⟩ = some .nilFunc := fun nx lg => mn_ipairs_step _ _ _ _ _ _ _ _ _ _ _ _ _ o' nx lg mm rm
  have hrow : o'.get j = some (.row [.int .u8 5, .int .i64 d, .int .u8 3, .int .i64 k2] e 2 true) := (hold j hj).trans hr
  have hT := fun (q : Nat) (lg : List Nat) => table0_ok (n := n + 3) (o := o') (nx := nx' + q) (lg := lg) (w := w) (B := B) (hs := hs) hO (h.more (by omega) hold) (match str_ipairs_step with | .string s => s | _ => ⟨#[]⟩) (j := j) (m := 2) (c := c) (by omega) (by decide) hrow hf
  have hP := hp_ipairs_step (n := n + 5) hO
  simp only [str_ipairs_step] at *
  show Got (rCode _ _ _ (Code.seq (Code.seq _ (Code.seq _ (Code.cond _ _ _))) (Code.seq (Code.block _ _) (Code.seq _ Code.ret))) _ _) _
  repeat (first | with_reducible (first | refine n_on ?_ | refine n_seq ?_ | refine s_else ?_ | refine n_t ?_ | refine n_gt ?_ | refine d_t ?_ | refine n_nil ?_ | refine d_nil ?_ | refine n_block ?_ | refine n_skip ?_ | refine n_bon ?_ | refine n_bback ?_ | refine n_back ?_ | refine n_out ?_ | refine n_bout rfl ?_ | refine n_bfar rfl ?_ | refine n_ret ?_ | refine n_exit ?_ | refine n_label ?_ | refine n_scope ?_ | refine n_son ?_ | refine n_sback ?_) | (with_reducible (first | apply n_region | apply d_region); (simp only [JV, JU, JW, Nat.reduceAdd, Nat.zero_add]; exact rfl)) | (with_reducible (first | apply s_op | apply n_guard | apply n_cond | apply d_guard | apply d_op | apply n_fin | apply n_finb); (simp (maxDischargeDepth := 6) only [sy3.1, zY, qG, qP, qQ, qR, qS, qT, rowAt, ↓jg, ↓ji, Nat.reduceAdd, Nat.reduceEqDiff, ne_eq, jG, Nat.reduceLT, if_true, ite_true, Int.reduceLE, Int.reduceLT, Int.reduceEq, Int.reduceNeg, Int.reduceAdd, Nat.reduceSub, if_false, ite_false, fs_8.1, b_neq_fn Tryz.underlying69, g2, g3, g6, g8, g9, r3, r6, r8, hlk, hle, c1, c2, c4, hP, fn0_neq, se_ipairs_step_pcall, se_ipairs_step_ipairs, se_ipairs_step_rawlen, hT, kind_pure, kind_load, kind_fresh, kind_other, jg, ji, undef]; first | exact rfl | exact ⟨rfl, rfl, rfl, rfl⟩); try (with_reducible refine calmK_in ?_; decide +kernel)))
  refine s_do _ (by
    simp (maxDischargeDepth := 6) only [sy3.1, zY, qG, qP, qQ, qR, qS, qT, rowAt, ↓jg, ↓ji, Nat.reduceAdd, Nat.reduceEqDiff, ne_eq, jG, Nat.reduceLT, if_true, ite_true, Int.reduceLE, Int.reduceLT, Int.reduceEq, Int.reduceNeg, Int.reduceAdd, Nat.reduceSub, if_false, ite_false, fs_8.1, b_neq_fn Tryz.underlying69, g8, r8]
    exact ontable_step_go (n := n + 2) hO (h.more (by omega) hold) (by omega) hrow hk hx h0) ?_
  rintro v1 H1 ⟨q, o1, nx1, heq, hq, hq2, hrq, hfr⟩
  cases heq
  have g1 : o1.get (nx + 1) = some (.row [.int .u8 0, .slice none 0 0, .bool false, .string ⟨#[]⟩] 37 0 true) := by rw [hfr (nx + 1) (by omega)]; first | exact r6 | ((repeat (first | rw [qE] | rw [qF _ _ _ _ (by omega)])); exact r6)
  have l1 : nx + 1 < nx1 := by omega
  repeat (first | with_reducible (first | refine n_on ?_ | refine n_seq ?_ | refine s_else ?_ | refine n_t ?_ | refine n_gt ?_ | refine d_t ?_ | refine n_nil ?_ | refine d_nil ?_ | refine n_block ?_ | refine n_skip ?_ | refine n_bon ?_ | refine n_bback ?_ | refine n_back ?_ | refine n_out ?_ | refine n_bout rfl ?_ | refine n_bfar rfl ?_ | refine n_ret ?_ | refine n_exit ?_ | refine n_label ?_ | refine n_scope ?_ | refine n_son ?_ | refine n_sback ?_) | (with_reducible (first | apply n_region | apply d_region); (simp only [JV, JU, JW, Nat.reduceAdd, Nat.zero_add]; exact rfl)) | (with_reducible (first | apply s_op | apply n_guard | apply n_cond | apply d_guard | apply d_op | apply n_fin | apply n_finb); (simp (maxDischargeDepth := 6) only [sy3.1, zY, qG, qP, qQ, qR, qS, qT, rowAt, ↓jg, ↓ji, Nat.reduceAdd, Nat.reduceEqDiff, ne_eq, jG, Nat.reduceLT, if_true, ite_true, Int.reduceLE, Int.reduceLT, Int.reduceEq, Int.reduceNeg, Int.reduceAdd, Nat.reduceSub, if_false, ite_false, fs_8.1, b_neq_fn Tryz.underlying69, g1, l1, g6, toldV, kind_pure, kind_load, kind_fresh, kind_other, jg, ji, undef]; first | exact rfl | exact ⟨rfl, rfl, rfl, rfl⟩); try (with_reducible refine calmK_in ?_; decide +kernel)))
  refine done_end ?_ (by omega) (by omega) (by (repeat (first | rw [qE] | rw [qF _ _ _ _ (by omega)])); exact hrq) (fun x hx => by (repeat (first | rw [qE] | rw [qF _ _ _ _ (by omega)])); rw [hfr x (by omega)]; first | exact hold x hx | ((repeat (first | rw [qE] | rw [qF _ _ _ _ (by omega)])); exact hold x hx))
  rw [List.all_eq_true]
  intro x hx
  simp only [in_note, in_relogL, List.not_mem_nil, or_false, false_or, or_self] at hx
  rw [Nat.ble_eq]
  rcases hx with hx | hx | hx | hx | hx <;> first | omega | (have := hlg x hx; omega)
set_option maxHeartbeats 64000000 in
theorem call_step_end (hO : Clear O) (h : HeapIn o nx w B hs) {j c e : Nat} {d k2 b1 b2 : Int} (hj : j < nx) (hr : o.get j = some (.row [.int .u8 5, .int .i64 d, .int .u8 3, .int .i64 k2] e 2 true)) (hf : (findO hs (5, d)).isSome = true) (hk : -1000000 < k2 ∧ k2 < 1000000) (hx : getO hs (5, d) (3, k2 + 1) = (b1, b2)) (h0 : b1 = 0) :
    Got (oCall Tryz.prog [] O (n + 8) 8 [.pointer (some ⟨B.i, 0, none⟩), .int .i64 32, .slice (some ⟨j, 0, none⟩) 2 c] ⟨o, nx, lg⟩) (DoneTo o nx lg [(0, 0)]) := by
  rw [y_fn (rs := [.cell 6 37]) (hO _ (by decide)) Tryz.func8 rfl (by kernel_rfl) rfl rfl]
  refine call_head (n := n) (k := 31) hO (by decide) nr_31 (hp := some ⟨B.i, 0, none⟩) (j := j) (m := 2) (c := c) fun e' o' nx' lg' S hlg => ?_
  obtain ⟨t8, mm, c1, c2, c3, c4, g8, g9, r8, rm⟩ := S.ex
  have g2 := S.e2; have g3 := S.e3; have g6 := S.e6; have r3 := S.r3; have r6 := S.r6; have hle := S.le; have hold := S.old
  have hlk : ∀ nx lg, aLookup Tryz.prog 77 (.map (some mm)) str_ipairs_step false ⟨o', nx, lg⟩ = some .nilFunc := fun nx lg => mn_ipairs_step _ _ _ _ _ _ _ _ _ _ _ _ _ o' nx lg mm rm
  have hrow : o'.get j = some (.row [.int .u8 5, .int .i64 d, .int .u8 3, .int .i64 k2] e 2 true) := (hold j hj).trans hr
  have hT := fun (q : Nat) (lg : List Nat) => table0_ok (n := n + 3) (o := o') (nx := nx' + q) (lg := lg) (w := w) (B := B) (hs := hs) hO (h.more (by omega) hold) (match str_ipairs_step with | .string s => s | _ => ⟨#[]⟩) (j := j) (m := 2) (c := c) (by omega) (by decide) hrow hf
  have hP := hp_ipairs_step (n := n + 5) hO
  simp only [str_ipairs_step] at *
  show Got (rCode _ _ _ (Code.seq (Code.seq _ (Code.seq _ (Code.cond _ _ _))) (Code.seq (Code.block _ _) (Code.seq _ Code.ret))) _ _) _
  repeat (first | with_reducible (first | refine n_on ?_ | refine n_seq ?_ | refine s_else ?_ | refine n_t ?_ | refine n_gt ?_ | refine d_t ?_ | refine n_nil ?_ | refine d_nil ?_ | refine n_block ?_ | refine n_skip ?_ | refine n_bon ?_ | refine n_bback ?_ | refine n_back ?_ | refine n_out ?_ | refine n_bout rfl ?_ | refine n_bfar rfl ?_ | refine n_ret ?_ | refine n_exit ?_ | refine n_label ?_ | refine n_scope ?_ | refine n_son ?_ | refine n_sback ?_) | (with_reducible (first | apply n_region | apply d_region); (simp only [JV, JU, JW, Nat.reduceAdd, Nat.zero_add]; exact rfl)) | (with_reducible (first | apply s_op | apply n_guard | apply n_cond | apply d_guard | apply d_op | apply n_fin | apply n_finb); (simp (maxDischargeDepth := 6) only [sy3.1, zY, qG, qP, qQ, qR, qS, qT, rowAt, ↓jg, ↓ji, Nat.reduceAdd, Nat.reduceEqDiff, ne_eq, jG, Nat.reduceLT, if_true, ite_true, Int.reduceLE, Int.reduceLT, Int.reduceEq, Int.reduceNeg, Int.reduceAdd, Nat.reduceSub, if_false, ite_false, fs_8.1, b_neq_fn Tryz.underlying69, g2, g3, g6, g8, g9, r3, r6, r8, hlk, hle, c1, c2, c4, hP, fn0_neq, se_ipairs_step_pcall, se_ipairs_step_ipairs, se_ipairs_step_rawlen, hT, kind_pure, kind_load, kind_fresh, kind_other, jg, ji, undef]; first | exact rfl | exact ⟨rfl, rfl, rfl, rfl⟩); try (with_reducible refine calmK_in ?_; decide +kernel)))
  refine s_do _ (by
    simp (maxDischargeDepth := 6) only [sy3.1, zY, qG, qP, qQ, qR, qS, qT, rowAt, ↓jg, ↓ji, Nat.reduceAdd, Nat.reduceEqDiff, ne_eq, jG, Nat.reduceLT, if_true, ite_true, Int.reduceLE, Int.reduceLT, Int.reduceEq, Int.reduceNeg, Int.reduceAdd, Nat.reduceSub, if_false, ite_false, fs_8.1, b_neq_fn Tryz.underlying69, g8, r8]
    exact ontable_step_end (n := n + 2) hO (h.more (by omega) hold) (by omega) hrow hk hx h0) ?_
  rintro v1 H1 ⟨q, o1, nx1, heq, hq, hq2, hrq, hfr⟩
  cases heq
  have g1 : o1.get (nx + 1) = some (.row [.int .u8 0, .slice none 0 0, .bool false, .string ⟨#[]⟩] 37 0 true) := by rw [hfr (nx + 1) (by omega)]; first | exact r6 | ((repeat (first | rw [qE] | rw [qF _ _ _ _ (by omega)])); exact r6)
  have l1 : nx + 1 < nx1 := by omega
  repeat (first | with_reducible (first | refine n_on ?_ | refine n_seq ?_ | refine s_else ?_ | refine n_t ?_ | refine n_gt ?_ | refine d_t ?_ | refine n_nil ?_ | refine d_nil ?_ | refine n_block ?_ | refine n_skip ?_ | refine n_bon ?_ | refine n_bback ?_ | refine n_back ?_ | refine n_out ?_ | refine n_bout rfl ?_ | refine n_bfar rfl ?_ | refine n_ret ?_ | refine n_exit ?_ | refine n_label ?_ | refine n_scope ?_ | refine n_son ?_ | refine n_sback ?_) | (with_reducible (first | apply n_region | apply d_region); (simp only [JV, JU, JW, Nat.reduceAdd, Nat.zero_add]; exact rfl)) | (with_reducible (first | apply s_op | apply n_guard | apply n_cond | apply d_guard | apply d_op | apply n_fin | apply n_finb); (simp (maxDischargeDepth := 6) only [sy3.1, zY, qG, qP, qQ, qR, qS, qT, rowAt, ↓jg, ↓ji, Nat.reduceAdd, Nat.reduceEqDiff, ne_eq, jG, Nat.reduceLT, if_true, ite_true, Int.reduceLE, Int.reduceLT, Int.reduceEq, Int.reduceNeg, Int.reduceAdd, Nat.reduceSub, if_false, ite_false, fs_8.1, b_neq_fn Tryz.underlying69, g1, l1, g6, toldV, kind_pure, kind_load, kind_fresh, kind_other, jg, ji, undef]; first | exact rfl | exact ⟨rfl, rfl, rfl, rfl⟩); try (with_reducible refine calmK_in ?_; decide +kernel)))
  refine done_end ?_ (by omega) (by omega) (by (repeat (first | rw [qE] | rw [qF _ _ _ _ (by omega)])); exact hrq) (fun x hx => by (repeat (first | rw [qE] | rw [qF _ _ _ _ (by omega)])); rw [hfr x (by omega)]; first | exact hold x hx | ((repeat (first | rw [qE] | rw [qF _ _ _ _ (by omega)])); exact hold x hx))
  rw [List.all_eq_true]
  intro x hx
  simp only [in_note, in_relogL, List.not_mem_nil, or_false, false_or, or_self] at hx
  rw [Nat.ble_eq]
  rcases hx with hx | hx | hx | hx | hx <;> first | omega | (have := hlg x hx; omega)
set_option maxHeartbeats 64000000 in
theorem call_ipairs (hO : Clear O) (h : HeapIn o nx w B hs) {j c e : Nat} {d : Int} (hj : j < nx) (hr : o.get j = some (.row [.int .u8 5, .int .i64 d] e 2 true)) (hf : (findO hs (5, d)).isSome = true)  :
    Got (oCall Tryz.prog [] O (n + 8) 8 [.pointer (some ⟨B.i, 0, none⟩), .int .i64 13, .slice (some ⟨j, 0, none⟩) 1 c] ⟨o, nx, lg⟩) (DoneTo o nx lg [(7, 32), (5, d), (3, 0)]) := by
  rw [y_fn (rs := [.cell 6 37]) (hO _ (by decide)) Tryz.func8 rfl (by kernel_rfl) rfl rfl]
  refine call_head (n := n) (k := 12) hO (by decide) nr_12 (hp := some ⟨B.i, 0, none⟩) (j := j) (m := 1) (c := c) fun e' o' nx' lg' S hlg => ?_
  obtain ⟨t8, mm, c1, c2, c3, c4, g8, g9, r8, rm⟩ := S.ex
  have g2 := S.e2; have g3 := S.e3; have g6 := S.e6; have r3 := S.r3; have r6 := S.r6; have hle := S.le; have hold := S.old
  have hlk : ∀ nx lg, aLookup Tryz.prog 77 (.map (some mm)) str_ipairs false ⟨o', nx, lg⟩ = some .nilFunc := fun nx lg => mn_ipairs _ _ _ _ _ _ _ _ _ _ _ _ _ o' nx lg mm rm
  have hrow : o'.get j = some (.row [.int .u8 5, .int .i64 d] e 2 true) := (hold j hj).trans hr
  have hA := fun (q : Nat) (lg : List Nat) => at0_ok (n := n + 6) (o := o') (nx := nx' + q) (lg := lg) (v := (5, d)) hO (some ⟨B.i, 0, none⟩) (match str_ipairs with | .string s => s | _ => ⟨#[]⟩) (j := j) (m := 1) (c := c) (rest := []) (e := e) (by omega) (by decide) hrow
  have hP := hp_ipairs (n := n + 5) hO
  have hQ := fun (o : Tr AObj) (nx : Nat) (lg : List Nat) => lnum_ok (o := o) (nx := nx) (lg := lg) (n := n + 6) hO 0
  simp only [str_ipairs] at *
  show Got (rCode _ _ _ (Code.seq (Code.seq _ (Code.seq _ (Code.cond _ _ _))) (Code.seq (Code.block _ _) (Code.seq _ Code.ret))) _ _) _
  repeat (first | with_reducible (first | refine n_on ?_ | refine n_seq ?_ | refine s_else ?_ | refine n_t ?_ | refine n_gt ?_ | refine d_t ?_ | refine n_nil ?_ | refine d_nil ?_ | refine n_block ?_ | refine n_skip ?_ | refine n_bon ?_ | refine n_bback ?_ | refine n_back ?_ | refine n_out ?_ | refine n_bout rfl ?_ | refine n_bfar rfl ?_ | refine n_ret ?_ | refine n_exit ?_ | refine n_label ?_ | refine n_scope ?_ | refine n_son ?_ | refine n_sback ?_) | (with_reducible (first | apply n_region | apply d_region); (simp only [JV, JU, JW, Nat.reduceAdd, Nat.zero_add]; exact rfl)) | (with_reducible (first | apply s_op | apply n_guard | apply n_cond | apply d_guard | apply d_op | apply n_fin | apply n_finb); (simp (maxDischargeDepth := 6) only [sy3.1, zY, qG, qP, qQ, qR, qS, qT, rowAt, ↓jg, ↓ji, Nat.reduceAdd, Nat.reduceEqDiff, ne_eq, jG, Nat.reduceLT, if_true, ite_true, Int.reduceLE, Int.reduceLT, Int.reduceEq, Int.reduceNeg, Int.reduceAdd, Nat.reduceSub, if_false, ite_false, fs_8.1, b_neq_fn Tryz.underlying69, g2, g3, g6, g8, g9, r3, r6, r8, hlk, hle, c1, c2, c4, hP, fn0_neq, se_ipairs_pcall, se_ipairs_ipairs, se_ipairs_rawlen, hA, hQ, hrow, show (0 : Int) < Int.ofNat 1 from by decide, st_buildSliceV, bs3, kind_pure, kind_load, kind_fresh, kind_other, jg, ji, undef]; first | exact rfl | exact ⟨rfl, rfl, rfl, rfl⟩); try (with_reducible refine calmK_in ?_; decide +kernel)))
  refine s_do _ (by
    simp (maxDischargeDepth := 6) only [sy3.1, zY, qG, qP, qQ, qR, qS, qT, rowAt, ↓jg, ↓ji, Nat.reduceAdd, Nat.reduceEqDiff, ne_eq, jG, Nat.reduceLT, if_true, ite_true, Int.reduceLE, Int.reduceLT, Int.reduceEq, Int.reduceNeg, Int.reduceAdd, Nat.reduceSub, if_false, ite_false, fs_8.1, b_neq_fn Tryz.underlying69]
    exact done_ok (n := n + 5) (l := [(7, 32), (5, d), (3, 0)]) (rest := []) hO rfl (by show 3 ≤ 1000000; decide) (by omega) (by (repeat (first | rw [qE] | rw [qF _ _ _ _ (by omega)])); rfl)) ?_
  rintro v1 H1 ⟨q, o1, nx1, heq, hq, hq2, hrq, hfr⟩
  cases heq
  have g1 : o1.get (nx + 1) = some (.row [.int .u8 0, .slice none 0 0, .bool false, .string ⟨#[]⟩] 37 0 true) := by rw [hfr (nx + 1) (by omega)]; first | exact r6 | ((repeat (first | rw [qE] | rw [qF _ _ _ _ (by omega)])); exact r6)
  have l1 : nx + 1 < nx1 := by omega
  repeat (first | with_reducible (first | refine n_on ?_ | refine n_seq ?_ | refine s_else ?_ | refine n_t ?_ | refine n_gt ?_ | refine d_t ?_ | refine n_nil ?_ | refine d_nil ?_ | refine n_block ?_ | refine n_skip ?_ | refine n_bon ?_ | refine n_bback ?_ | refine n_back ?_ | refine n_out ?_ | refine n_bout rfl ?_ | refine n_bfar rfl ?_ | refine n_ret ?_ | refine n_exit ?_ | refine n_label ?_ | refine n_scope ?_ | refine n_son ?_ | refine n_sback ?_) | (with_reducible (first | apply n_region | apply d_region); (simp only [JV, JU, JW, Nat.reduceAdd, Nat.zero_add]; exact rfl)) | (with_reducible (first | apply s_op | apply n_guard | apply n_cond | apply d_guard | apply d_op | apply n_fin | apply n_finb); (simp (maxDischargeDepth := 6) only [sy3.1, zY, qG, qP, qQ, qR, qS, qT, rowAt, ↓jg, ↓ji, Nat.reduceAdd, Nat.reduceEqDiff, ne_eq, jG, Nat.reduceLT, if_true, ite_true, Int.reduceLE, Int.reduceLT, Int.reduceEq, Int.reduceNeg, Int.reduceAdd, Nat.reduceSub, if_false, ite_false, fs_8.1, b_neq_fn Tryz.underlying69, g1, l1, g6, toldV, kind_pure, kind_load, kind_fresh, kind_other, jg, ji, undef]; first | exact rfl | exact ⟨rfl, rfl, rfl, rfl⟩); try (with_reducible refine calmK_in ?_; decide +kernel)))
  refine done_end ?_ (by omega) (by omega) (by (repeat (first | rw [qE] | rw [qF _ _ _ _ (by omega)])); exact hrq) (fun x hx => by (repeat (first | rw [qE] | rw [qF _ _ _ _ (by omega)])); rw [hfr x (by omega)]; first | exact hold x hx | ((repeat (first | rw [qE] | rw [qF _ _ _ _ (by omega)])); exact hold x hx))
  rw [List.all_eq_true]
  intro x hx
  simp only [in_note, in_relogL, List.not_mem_nil, or_false, false_or, or_self] at hx
  rw [Nat.ble_eq]
  rcases hx with hx | hx | hx | hx | hx <;> first | omega | (have := hlg x hx; omega)
end
end Go.Proofs.YtdfadipfhcikdaaGreatDoor
