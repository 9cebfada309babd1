/- Frame: the law's program in the abstract memory. -/
import Derived.Test.YtckahbnkdiamjaaFrMake
namespace Go.Proofs.Ytckahbnkdiamjaa
open Go.RowKit
set_option linter.unusedSimpArgs false
set_option linter.unusedVariables false
set_option maxRecDepth 100000

def pickI (x n : Int) : Int := if x.tmod n < 0 then x.tmod n + n else x.tmod n
theorem pickI_in (x : Int) {n : Int} (hn : 0 < n) : 0 ≤ pickI x n ∧ pickI x n < n := by
  unfold pickI
  have h1 := Int.tmod_lt_of_pos x hn
  have h2 : -n < x.tmod n := by
    have := Int.tmod_lt_of_pos (-x) hn
    rw [Int.neg_tmod] at this; omega
  split <;> omega
section
variable {O : Helps} {n : Nat} {o : Tr AObj} {nx : Nat} {lg : List Nat}
theorem pick_ok (hO : Clear O) (x k : Int) (hk : 0 < k) (hk2 : k < 1000000000) :
    oCall Try.prog [] O (n + 1) 22 [.int .i64 x, .int .i64 k] ⟨o, nx, lg⟩ = some (.int .i64 (pickI x k), ⟨o, nx, lg⟩) := by
  refine of_got ?_
  rw [y_fn (rs := [.tmp 4]) (hO _ (by decide)) Try.func22 rfl (by kernel_rfl) rfl rfl]
  have k1 : decide (k < 1) = false := decide_eq_false (by omega)
  have k0 : k ≠ 0 := by omega
  have h1 := Int.tmod_lt_of_pos x hk
  have h2 : -k < x.tmod k := by
    have := Int.tmod_lt_of_pos (-x) hk
    rw [Int.neg_tmod] at this; omega
  unfold pickI
  by_cases h : x.tmod k < 0
  · have hw : IntKind.i64.wrap (x.tmod k + k) = x.tmod k + k := IntWalk.i64_in _ (by omega)
    simp (maxDischargeDepth := 6) only [sy3.1, zY, qG, qP, qQ, qR, qS, qT, rowAt, ↓jg, ↓ji, Nat.reduceAdd, Nat.reduceEqDiff, ne_eq, jG, Nat.reduceLT, if_true, ite_true, Int.reduceLE, Int.reduceLT, Int.reduceEq, Int.reduceNeg, Int.reduceAdd, Nat.reduceSub, if_false, ite_false, id, k1, b_rem k0, decide_eq_true h, hw]
    simp only [h, if_true]
    try exact Ja (by rfl) (by rfl)
  · simp (maxDischargeDepth := 6) only [sy3.1, zY, qG, qP, qQ, qR, qS, qT, rowAt, ↓jg, ↓ji, Nat.reduceAdd, Nat.reduceEqDiff, ne_eq, jG, Nat.reduceLT, if_true, ite_true, Int.reduceLE, Int.reduceLT, Int.reduceEq, Int.reduceNeg, Int.reduceAdd, Nat.reduceSub, if_false, ite_false, id, k1, b_rem k0, decide_eq_false h]
    simp only [h, if_false]
    try exact Ja (by rfl) (by rfl)
theorem num_ok (hO : Clear O) (x : Int) : oCall Try.prog [] O (n + 1) 13 [.int .i64 x] ⟨o, nx, lg⟩ = some (vv (3, x), ⟨o, nx, lg⟩) := by
  refine of_got ?_
  rw [y_fn (rs := [.cell 2 41]) (hO _ (by decide)) Try.func13 rfl (by kernel_rfl) rfl rfl]
  repeat (first | with_reducible (first | refine n_on ?_ | refine n_seq ?_ | refine s_else ?_ | refine n_t ?_ | refine n_gt ?_ | refine d_t ?_ | refine n_nil ?_ | refine d_nil ?_ | refine n_block ?_ | refine n_skip ?_ | refine n_bon ?_ | refine n_bback ?_ | refine n_back ?_ | refine n_out ?_ | refine n_bout rfl ?_ | refine n_bfar rfl ?_ | refine n_ret ?_ | refine n_exit ?_ | refine n_label ?_ | refine n_scope ?_ | refine n_son ?_ | refine n_sback ?_) | (with_reducible (first | apply n_region | apply d_region); (simp only [JV, JU, JW, Nat.reduceAdd, Nat.zero_add]; exact rfl)) | (with_reducible (first | apply s_op | apply n_guard | apply n_cond | apply d_guard | apply d_op | apply n_fin | apply n_finb); (simp (maxDischargeDepth := 6) only [sy3.1, zY, qG, qP, qQ, qR, qS, qT, rowAt, ↓jg, ↓ji, Nat.reduceAdd, Nat.reduceEqDiff, ne_eq, jG, Nat.reduceLT, if_true, ite_true, Int.reduceLE, Int.reduceLT, Int.reduceEq, Int.reduceNeg, Int.reduceAdd, Nat.reduceSub, if_false, ite_false, fs_13.1, vv, kind_pure, kind_load, kind_fresh, kind_other, jg, ji, undef]; first | exact rfl | exact ⟨rfl, rfl, rfl, rfl⟩); try (with_reducible refine calmK_in ?_; decide +kernel)))
  try exact Ja (by simp only [all_relogL, js, ju, List.all_nil, jt, Bool.and_self]) (by rfl)
theorem build_stmt : ∀ (c : Int) fid H, buildSliceV Try.prog 70 1 [(0, .agg #[.int .u8 10, .slice none 0 0, .slice none 0 0, .slice none 0 0, .int .i64 c, .int .i64 0, .int .i64 0])] fid H = some (.slice (some ⟨fid, 0, none⟩) 1 2, newRowA fid [.int .u8 10, .slice none 0 0, .slice none 0 0, .slice none 0 0, .int .i64 c, .int .i64 0, .int .i64 0] 90 7 H) := fun c fid H => by kernel_rfl
theorem build_bit : ∀ (c : Bool) fid H, buildSliceV Try.prog 69 1 [(0, .bool c)] fid H = some (.slice (some ⟨fid, 0, none⟩) 1 2, newRowA fid [.bool c] 4 1 H) := fun c fid H => by kernel_rfl
theorem app_bb : appOf Try.prog 69 69 = some (4, 1, 1) := by kernel_rfl
theorem build_protos : ∀ (kb ks : Nat) fid H, buildSliceV Try.prog 31 2 [(0, .agg #[.int .i64 0, .bool false, .int .i64 5, .slice (some ⟨kb, 0, none⟩) 5 0, .slice none 0 0, .slice (some ⟨ks, 0, none⟩) 1 2, .slice none 0 0, .int .i64 0]), (1, .agg #[.int .i64 0, .bool false, .int .i64 0, .slice none 0 0, .slice none 0 0, .slice (some ⟨ks, 0, none⟩) 1 2, .slice none 0 0, .int .i64 0])] fid H = some (.slice (some ⟨fid, 0, none⟩) 2 3, newRowA fid [.int .i64 0, .bool false, .int .i64 5, .slice (some ⟨kb, 0, none⟩) 5 0, .slice none 0 0, .slice (some ⟨ks, 0, none⟩) 1 2, .slice none 0 0, .int .i64 0, .int .i64 0, .bool false, .int .i64 0, .slice none 0 0, .slice none 0 0, .slice (some ⟨ks, 0, none⟩) 1 2, .slice none 0 0, .int .i64 0] 73 8 H) := fun kb ks fid H => by kernel_rfl
theorem cut_eight (a b c d e f g h : Value) : cut [a, b, c, d, e, f, g, h] 0 8 = some [a, b, c, d, e, f, g, h] := rfl
def bitB (b : Int) (k : Nat) : Bool := decide (IntKind.i64.wrap (Int.ofNat (BitVec.ofInt IntKind.i64.bits (b.fdiv (2 ^ min k IntKind.i64.bits)) &&& BitVec.ofInt IntKind.i64.bits 1).toNat) = 1)
theorem bapp_nil {c : Bool} : ∀ (o : Tr AObj) (nx : Nat) (lg : List Nat) (fid q : Nat), o.get q = some (.row [.bool c] 4 1 true) →
    aAppend Try.prog 69 69 (.slice none 0 0) (.slice (some ⟨q, 0, none⟩) 1 2) fid ⟨o, nx, lg⟩ = some (.slice (some ⟨fid, 0, none⟩) 1 0, ⟨o.put fid (some (.row [.bool c] 4 1 true)), nx, lg⟩) := by
  intro o nx lg fid q hq
  have hadd : addCells 1 (.slice (some ⟨q, 0, none⟩) 1 2) ⟨o, nx, lg⟩ = some (0 + 1, [.bool c]) := by
    simp only [addCells, qH, hq]; rfl
  rw [app_none app_bb hadd rfl]; rfl
theorem bapp_row {c : Bool} {bx : List Bool} {k : Nat} (hk : bx.length = k) (hl : k < 1000) : ∀ (o : Tr AObj) (nx : Nat) (lg : List Nat) (fid q j : Nat), o.get q = some (.row [.bool c] 4 1 true) → o.get j = some (.row (bx.map .bool) 4 1 true) →
    aAppend Try.prog 69 69 (.slice (some ⟨j, 0, none⟩) k 0) (.slice (some ⟨q, 0, none⟩) 1 2) fid ⟨o, nx, lg⟩ = some (.slice (some ⟨fid, 0, none⟩) (k + 1) 0, ⟨(o.put j none).put fid (some (.row (bx.map .bool ++ [.bool c]) 4 1 true)), nx, noteId j lg⟩) := by
  intro o nx lg fid q j hq hj
  have hadd : addCells 1 (.slice (some ⟨q, 0, none⟩) 1 2) ⟨o, nx, lg⟩ = some (0 + 1, [.bool c]) := by
    simp only [addCells, qH, hq]; rfl
  have hr : roomOk (k + (0 + 1)) 1 = true := by unfold roomOk; rw [Bool.and_eq_true, Nat.ble_eq, Nat.ble_eq]; omega
  rw [app_row app_bb hadd hj (show cut (bx.map Value.bool) 0 (k * 1) = some (bx.map .bool) from cut_in (by rw [List.length_map]; omega) [] [] rfl (by simp)) hr (by simp [oneV])]; rfl
/-- the boxed slice after k rounds -/
def BoxAt (o : Tr AObj) (nx lo : Nat) (a : Option Nat) (bx : List Bool) : Prop := (a = none ∧ bx = []) ∨ ∃ j, a = some j ∧ lo ≤ j ∧ j < nx ∧ o.get j = some (.row (bx.map .bool) 4 1 true)
set_option maxHeartbeats 32000000 in
theorem fprogram_ok (hO : Clear O) (b : Int) : Got (oCall Try.prog [] O (n + 8) 6 [.agg #[.int .i64 0, .int .i64 5, .int .i64 b, .bool false, .slice none 0 0]] ⟨o, nx, lg⟩) fun r => ∃ o' nx' kp kb ks bx, r = (pV kp, ⟨o', nx', lg⟩) ∧ nx ≤ nx' ∧ ProgIn o' nx' kp kb ks bx (.slice none 0 0) ∧ (∀ x, x < nx → o'.get x = o.get x) ∧ nx ≤ kp ∧ nx ≤ kb ∧ nx ≤ ks ∧ kb ≠ kp := by
  have p1 : pickI 5 7 = 5 := by decide
  have p2 : pickI 0 (IntKind.i64.wrap (5 + 2)) = 0 := by decide
  have hP1 := fun (o : Tr AObj) (nx : Nat) (lg : List Nat) => pick_ok (n := n + 6) (o := o) (nx := nx) (lg := lg) hO 5 7 (by decide) (by decide)
  have w7 : IntKind.i64.wrap 7 = 7 := by decide
  have hP2 := fun (o : Tr AObj) (nx : Nat) (lg : List Nat) => pick_ok (n := n + 6) (o := o) (nx := nx) (lg := lg) hO 0 7 (by decide) (by decide)
  rw [p1] at hP1
  rw [show pickI 0 7 = 0 from by decide] at hP2
  rw [y_fn (rs := [.cell 2 33]) (hO _ (by decide)) Try.func6 rfl (by kernel_rfl) rfl rfl]
  repeat (first | with_reducible (first | refine n_on ?_ | refine n_seq ?_ | refine s_else ?_ | refine n_t ?_ | refine n_gt ?_ | refine d_t ?_ | refine n_nil ?_ | refine d_nil ?_ | refine n_block ?_ | refine n_skip ?_ | refine n_bon ?_ | refine n_bback ?_ | refine n_back ?_ | refine n_out ?_ | refine n_bout rfl ?_ | refine n_bfar rfl ?_ | refine n_ret ?_ | refine n_exit ?_ | refine n_label ?_ | refine n_scope ?_ | refine n_son ?_ | refine n_sback ?_) | (with_reducible (first | apply n_region | apply d_region); (simp only [JV, JU, JW, Nat.reduceAdd, Nat.zero_add]; exact rfl)) | (with_reducible (first | apply s_op | apply n_guard | apply n_cond | apply d_guard | apply d_op | apply n_fin | apply n_finb); (simp (maxDischargeDepth := 6) only [sy3.1, zY, qG, qP, qQ, qR, qS, qT, rowAt, ↓jg, ↓ji, Nat.reduceAdd, Nat.reduceEqDiff, ne_eq, jG, Nat.reduceLT, if_true, ite_true, Int.reduceLE, Int.reduceLT, Int.reduceEq, Int.reduceNeg, Int.reduceAdd, Nat.reduceSub, if_false, ite_false, fs_6.1, hP1, hP2, w7, st_buildSliceV, build_stmt, kind_pure, kind_load, kind_fresh, kind_other, jg, ji, undef]; first | exact rfl | exact ⟨rfl, rfl, rfl, rfl⟩); try (with_reducible refine calmK_in ?_; decide +kernel)))
  rw [y_loop_eq]
  refine y_loop (I := fun q e H => ∃ k o' nx' lg' a bx, k + q = 5 ∧ H = (⟨o', nx', lg'⟩ : AHeap) ∧ nx + 18 ≤ nx' ∧ lg'.all (fun i => Nat.ble nx i) = true ∧ (∀ x, x < nx → o'.get x = o.get x) ∧ bx.length = k ∧ BoxAt o' nx' (nx + 18) a bx ∧ o'.get nx = some (.row [.int .i64 0, .int .i64 5, .int .i64 b, .bool false, .slice none 0 0] 24 0 true) ∧ o'.get (nx + 1) = some (.row [.slice none 0 0, .slice none 0 0] 33 0 true) ∧ o'.get (nx + 17) = some (.row [.int .i64 0, .bool false, .int .i64 5, .slice (slA a) k 0, .slice none 0 0, .slice (some ⟨nx + 15, 0, none⟩) 1 2, .slice none 0 0, .int .i64 0] 73 0 true) ∧ e.get 1 = some (.pointer (some ⟨nx, 0, none⟩)) ∧ e.get 2 = some (.pointer (some ⟨nx + 1, 0, none⟩)) ∧ e.get 3 = some (.int .i64 5) ∧ e.get 4 = some (.pointer (some ⟨nx + 17, 0, none⟩)) ∧ e.get 5 = some (.int .i64 (.ofNat k))) ?_ 5 _ _ _ ?_ (by omega)
  · rintro q e H ⟨k, o', nx', lg', a, bx, hk, rfl, hnx, hlg, hold, hbl, hbox, r0, r1, r17, g1, g2, g3, g4, g5⟩
    have hb0 : decide (IntKind.i64.wrap (Int.ofNat (BitVec.ofInt IntKind.i64.bits (b.fdiv (2 ^ min 0 IntKind.i64.bits)) &&& BitVec.ofInt IntKind.i64.bits 1).toNat) = 1) = bitB b 0 := rfl
    have hbk : decide (IntKind.i64.wrap (Int.ofNat (BitVec.ofInt IntKind.i64.bits (b.fdiv (2 ^ min k IntKind.i64.bits)) &&& BitVec.ofInt IntKind.i64.bits 1).toNat) = 1) = bitB b k := rfl
    have hn0 : nx < nx' := by omega
    have hn1 : nx + 1 < nx' := by omega
    have hn17 : nx + 17 < nx' := by omega
    by_cases hlt : k < 5
    · have hw := wrap_next k (by omega)
      have hk0 : 0 ≤ Int.ofNat k := Int.natCast_nonneg k
      have d5 : decide (Int.ofNat k < 5) = true := decide_eq_true (by simp only [Int.ofNat_eq_natCast]; omega)
      rcases hbox with ⟨rfl, rfl⟩ | ⟨j, rfl, hj1, hj2, hjr⟩
      · have hk00 : k = 0 := by simpa using hbl.symm
        subst hk00
        repeat (first | with_reducible (first | refine n_on ?_ | refine n_seq ?_ | refine s_else ?_ | refine n_t ?_ | refine n_gt ?_ | refine d_t ?_ | refine n_nil ?_ | refine d_nil ?_ | refine n_block ?_ | refine n_skip ?_ | refine n_bon ?_ | refine n_bback ?_ | refine n_back ?_ | refine n_out ?_ | refine n_bout rfl ?_ | refine n_bfar rfl ?_ | refine n_ret ?_ | refine n_exit ?_ | refine n_label ?_ | refine n_scope ?_ | refine n_son ?_ | refine n_sback ?_) | (with_reducible (first | apply n_region | apply d_region); (simp only [JV, JU, JW, Nat.reduceAdd, Nat.zero_add]; exact rfl)) | (with_reducible (first | apply s_op | apply n_guard | apply n_cond | apply d_guard | apply d_op | apply n_fin | apply n_finb); (simp (maxDischargeDepth := 6) only [sy3.1, zY, qG, qP, qQ, qR, qS, qT, rowAt, ↓jg, ↓ji, Nat.reduceAdd, Nat.reduceEqDiff, ne_eq, jG, Nat.reduceLT, if_true, ite_true, Int.reduceLE, Int.reduceLT, Int.reduceEq, Int.reduceNeg, Int.reduceAdd, Nat.reduceSub, if_false, ite_false, fs_6.1, slA, r0, r17, g1, g2, g3, g4, g5, d5, hk0, hw, hn0, hn1, hn17, st_buildSliceV, build_bit, hb0, bapp_nil (c := bitB b 0), kind_pure, kind_load, kind_fresh, kind_other, jg, ji, undef]; first | exact rfl | exact ⟨rfl, rfl, rfl, rfl⟩); try (with_reducible refine calmK_in ?_; decide +kernel)))
        refine ⟨q - 1, by omega, 1, _, _, _, some (nx' + 12), [bitB b 0], by omega, rfl, by omega, ?_, ?_, rfl, .inr ⟨_, rfl, by omega, by omega, ?_⟩, ?_, ?_, ?_, ?_, ?_, ?_, ?_, ?_⟩
        · simp only [all_relogL, js, ju, List.all_nil, jt, Bool.and_self, Bool.true_and, Bool.and_true, hlg]
        · intro x hx; (repeat (first | rw [qE] | rw [qF _ _ _ _ (by omega)])); exact hold x hx
        · (repeat (first | rw [qE] | rw [qF _ _ _ _ (by omega)])); rfl
        · (repeat (first | rw [qE] | rw [qF _ _ _ _ (by omega)]))
          exact r0
        · (repeat (first | rw [qE] | rw [qF _ _ _ _ (by omega)]))
          exact r1
        · (repeat (first | rw [qE] | rw [qF _ _ _ _ (by omega)])); rfl
        · simp only [qC, qD, qE, qF, Tr.get_nil, ne_eq, not_false_eq_true, Nat.reduceEqDiff, g1]
        · simp only [qC, qD, qE, qF, Tr.get_nil, ne_eq, not_false_eq_true, Nat.reduceEqDiff, g2]
        · simp only [qC, qD, qE, qF, Tr.get_nil, ne_eq, not_false_eq_true, Nat.reduceEqDiff, g3]
        · simp only [qC, qD, qE, qF, Tr.get_nil, ne_eq, not_false_eq_true, Nat.reduceEqDiff, g4]
        · simp only [qC, qD, qE, qF, Tr.get_nil, ne_eq, not_false_eq_true, Nat.reduceEqDiff]
      · have hj17 : j ≠ nx + 17 := by omega
        have hj17' := Ne.symm hj17
        have happ := bapp_row (c := bitB b k) hbl (by omega : k < 1000)
        repeat (first | with_reducible (first | refine n_on ?_ | refine n_seq ?_ | refine s_else ?_ | refine n_t ?_ | refine n_gt ?_ | refine d_t ?_ | refine n_nil ?_ | refine d_nil ?_ | refine n_block ?_ | refine n_skip ?_ | refine n_bon ?_ | refine n_bback ?_ | refine n_back ?_ | refine n_out ?_ | refine n_bout rfl ?_ | refine n_bfar rfl ?_ | refine n_ret ?_ | refine n_exit ?_ | refine n_label ?_ | refine n_scope ?_ | refine n_son ?_ | refine n_sback ?_) | (with_reducible (first | apply n_region | apply d_region); (simp only [JV, JU, JW, Nat.reduceAdd, Nat.zero_add]; exact rfl)) | (with_reducible (first | apply s_op | apply n_guard | apply n_cond | apply d_guard | apply d_op | apply n_fin | apply n_finb); (simp (maxDischargeDepth := 6) only [sy3.1, zY, qG, qP, qQ, qR, qS, qT, rowAt, ↓jg, ↓ji, Nat.reduceAdd, Nat.reduceEqDiff, ne_eq, jG, Nat.reduceLT, if_true, ite_true, Int.reduceLE, Int.reduceLT, Int.reduceEq, Int.reduceNeg, Int.reduceAdd, Nat.reduceSub, if_false, ite_false, fs_6.1, slA, r0, r17, g1, g2, g3, g4, g5, d5, hk0, hw, hjr, hn0, hn1, hn17, st_buildSliceV, build_bit, hbk, happ, hj2, hj17, hj17', kind_pure, kind_load, kind_fresh, kind_other, jg, ji, undef]; first | exact rfl | exact ⟨rfl, rfl, rfl, rfl⟩); try (with_reducible refine calmK_in ?_; decide +kernel)))
        have hbj : Nat.ble nx j = true := Nat.ble_eq.mpr (by omega)
        refine ⟨q - 1, by omega, k + 1, _, _, _, some (nx' + 12), bx ++ [bitB b k], by omega, rfl, by omega, ?_, ?_, by rw [List.length_append]; simp only [List.length_cons, List.length_nil, hbl], .inr ⟨_, rfl, by omega, by omega, ?_⟩, ?_, ?_, ?_, ?_, ?_, ?_, ?_, ?_⟩
        · simp only [all_relogL, js, ju, List.all_nil, jt, Bool.and_self, Bool.true_and, Bool.and_true, hlg, hbj]
        · intro x hx; (repeat (first | rw [qE] | rw [qF _ _ _ _ (by omega)])); exact hold x hx
        · (repeat (first | rw [qE] | rw [qF _ _ _ _ (by omega)])); rw [List.map_append]; rfl
        · (repeat (first | rw [qE] | rw [qF _ _ _ _ (by omega)]))
          exact r0
        · (repeat (first | rw [qE] | rw [qF _ _ _ _ (by omega)]))
          exact r1
        · (repeat (first | rw [qE] | rw [qF _ _ _ _ (by omega)])); rfl
        · simp only [qC, qD, qE, qF, Tr.get_nil, ne_eq, not_false_eq_true, Nat.reduceEqDiff, g1]
        · simp only [qC, qD, qE, qF, Tr.get_nil, ne_eq, not_false_eq_true, Nat.reduceEqDiff, g2]
        · simp only [qC, qD, qE, qF, Tr.get_nil, ne_eq, not_false_eq_true, Nat.reduceEqDiff, g3]
        · simp only [qC, qD, qE, qF, Tr.get_nil, ne_eq, not_false_eq_true, Nat.reduceEqDiff, g4]
        · simp only [qC, qD, qE, qF, Tr.get_nil, ne_eq, not_false_eq_true, Nat.reduceEqDiff]
    · have hk5 : k = 5 := by omega
      subst hk5
      have d5 : decide (Int.ofNat 5 < 5) = false := by decide
      have hn1 : nx + 1 < nx' := by omega
      have hn17 : nx + 17 < nx' := by omega
      have d6 : decide ((0 : Int) < Int.ofNat 0) = false := by decide
      have d7 : decide ((0 : Int) < 4) = true := by decide
      rcases hbox with ⟨rfl, rfl⟩ | ⟨j, rfl, hj1, hj2, hjr⟩
      · cases hbl
      repeat (first | with_reducible (first | refine n_on ?_ | refine n_seq ?_ | refine s_else ?_ | refine n_t ?_ | refine n_gt ?_ | refine d_t ?_ | refine n_nil ?_ | refine d_nil ?_ | refine n_block ?_ | refine n_skip ?_ | refine n_bon ?_ | refine n_bback ?_ | refine n_back ?_ | refine n_out ?_ | refine n_bout rfl ?_ | refine n_bfar rfl ?_ | refine n_ret ?_ | refine n_exit ?_ | refine n_label ?_ | refine n_scope ?_ | refine n_son ?_ | refine n_sback ?_) | (with_reducible (first | apply n_region | apply d_region); (simp only [JV, JU, JW, Nat.reduceAdd, Nat.zero_add]; exact rfl)) | (with_reducible (first | apply s_op | apply n_guard | apply n_cond | apply d_guard | apply d_op | apply n_fin | apply n_finb); (simp (maxDischargeDepth := 6) only [sy3.1, zY, qG, qP, qQ, qR, qS, qT, rowAt, ↓jg, ↓ji, Nat.reduceAdd, Nat.reduceEqDiff, ne_eq, jG, Nat.reduceLT, if_true, ite_true, Int.reduceLE, Int.reduceLT, Int.reduceEq, Int.reduceNeg, Int.reduceAdd, Nat.reduceSub, if_false, ite_false, fs_6.1, slA, r0, r17, g1, g2, g3, g4, g5, d5, kind_pure, kind_load, kind_fresh, kind_other, jg, ji, undef]; first | exact rfl | exact ⟨rfl, rfl, rfl, rfl⟩); try (with_reducible refine calmK_in ?_; decide +kernel)))
      rw [y_loop_eq]
      refine y_round ?_
      repeat (first | with_reducible (first | refine n_on ?_ | refine n_seq ?_ | refine s_else ?_ | refine n_t ?_ | refine n_gt ?_ | refine d_t ?_ | refine n_nil ?_ | refine d_nil ?_ | refine n_block ?_ | refine n_skip ?_ | refine n_bon ?_ | refine n_bback ?_ | refine n_back ?_ | refine n_out ?_ | refine n_bout rfl ?_ | refine n_bfar rfl ?_ | refine n_ret ?_ | refine n_exit ?_ | refine n_label ?_ | refine n_scope ?_ | refine n_son ?_ | refine n_sback ?_) | (with_reducible (first | apply n_region | apply d_region); (simp only [JV, JU, JW, Nat.reduceAdd, Nat.zero_add]; exact rfl)) | (with_reducible (first | apply s_op | apply n_guard | apply n_cond | apply d_guard | apply d_op | apply n_fin | apply n_finb); (simp (maxDischargeDepth := 6) only [sy3.1, zY, qG, qP, qQ, qR, qS, qT, rowAt, ↓jg, ↓ji, Nat.reduceAdd, Nat.reduceEqDiff, ne_eq, jG, Nat.reduceLT, if_true, ite_true, Int.reduceLE, Int.reduceLT, Int.reduceEq, Int.reduceNeg, Int.reduceAdd, Nat.reduceSub, if_false, ite_false, fs_6.1, slA, r0, r1, r17, g1, g2, g3, g4, g5, d6, d7, cut_eight, hn1, hn17, st_buildSliceV, build_protos, kind_pure, kind_load, kind_fresh, kind_other, jg, ji, undef]; first | exact rfl | exact ⟨rfl, rfl, rfl, rfl⟩); try (with_reducible refine calmK_in ?_; decide +kernel)))
      refine ⟨_, _, nx' + 19, j, nx + 15, bx, leave_new (by simp only [all_relogL, js, ju, List.all_nil, jt, Bool.and_self, Bool.true_and, Bool.and_true, hlg]) ?_, by omega, ⟨by omega, by omega, by omega, hbl, ?_, ⟨[], ?_⟩⟩, fun x hx => ?_, by omega, by omega, by omega, by omega⟩
      · have : Nat.blt (nx' + 19) nx = false := blt_new (by omega)
        show (true && (Nat.blt (nx' + 19) nx && true)) = false
        rw [this]; rfl
      · (repeat (first | rw [qE] | rw [qF _ _ _ _ (by omega)]))
      · rw [List.append_nil]; (repeat (first | rw [qE] | rw [qF _ _ _ _ (by omega)])); exact hjr
      · (repeat (first | rw [qE] | rw [qF _ _ _ _ (by omega)])); exact hold x hx
  · refine ⟨0, _, _, _, none, [], rfl, rfl, by omega, ?_, ?_, rfl, .inl ⟨rfl, rfl⟩, ?_, ?_, ?_, ?_, ?_, ?_, ?_, ?_⟩
    · simp only [all_relogL, js, ju, List.all_nil, jt, Bool.and_self]
    · intro x hx; (repeat (first | rw [qE] | rw [qF _ _ _ _ (by omega)]))
    · (repeat (first | rw [qE] | rw [qF _ _ _ _ (by omega)]))
    · (repeat (first | rw [qE] | rw [qF _ _ _ _ (by omega)]))
    · (repeat (first | rw [qE] | rw [qF _ _ _ _ (by omega)])); rfl
    · simp only [qG, qC, qD, qE, qF, Tr.get_nil, ne_eq, not_false_eq_true, Nat.reduceEqDiff]
    · simp only [qG, qC, qD, qE, qF, Tr.get_nil, ne_eq, not_false_eq_true, Nat.reduceEqDiff]
    · simp only [qG, qC, qD, qE, qF, Tr.get_nil, ne_eq, not_false_eq_true, Nat.reduceEqDiff]
    · simp only [qG, qC, qD, qE, qF, Tr.get_nil, ne_eq, not_false_eq_true, Nat.reduceEqDiff]
    · simp only [qG, qC, qD, qE, qF, Tr.get_nil, ne_eq, not_false_eq_true, Nat.reduceEqDiff]; rfl
end
end Go.Proofs.Ytckahbnkdiamjaa
