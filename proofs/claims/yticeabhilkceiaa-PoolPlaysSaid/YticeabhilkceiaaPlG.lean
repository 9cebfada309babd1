/- Pool: Ids and Copy, on the abstract machine. -/
import Derived.Test.YticeabhilkceiaaPlF
namespace Go.Proofs.Yticeabhilkceiaa
open Go.RowKit
set_option linter.unusedSimpArgs false
set_option linter.unusedVariables false
set_option maxRecDepth 100000

theorem build_int0 : ∀ fid H, buildSliceV Try.prog 27 0 [] fid H = some (.slice (some ⟨fid, 0, none⟩) 0 1, newRowA fid [] 3 1 H) := fun fid H => by kernel_rfl
theorem islice0_eql : binV Try.prog .eql 27 false true (.slice none 0 0) (.slice none 0 0) = some (.bool true) := by kernel_rfl
/-- a copy of a list is put behind one that holds nothing and may hold nothing -/
theorem iapp_cp {xs : List Int} {j : Nat} {rest : List Value} {cc m : Nat} (hm : xs.length = m + 1) (hl : xs.length ≤ 1000000) : ∀ (o : Tr AObj) (nx : Nat) (lg : List Nat) (fid q : Nat), o.get q = some (.row [] 3 1 true) → o.get j = some (.row (xs.map (Value.int .i64) ++ rest) 3 1 true) →
    aAppend Try.prog 27 27 (.slice (some ⟨q, 0, none⟩) 0 1) (.slice (some ⟨j, 0, none⟩) (m + 1) cc) fid ⟨o, nx, lg⟩ = some (.slice (some ⟨fid, 0, none⟩) (m + 1) 0, ⟨o.put fid (some (.row (xs.map (Value.int .i64)) 3 1 true)), nx, lg⟩) := by
  intro o nx lg fid q hq hj
  have h := add_ints (nx := nx) (lg := lg) (off := 0) (m := m + 1) (c := cc) hj (by omega)
  rw [List.drop_zero, List.take_of_length_le (by omega)] at h
  rw [appOf_at app_int, h]
  have hc : cut ([] : List Value) 0 (0 * 1) = some [] := by simp [cut]
  have hr : roomOk (m + 1) 8 = true := by unfold roomOk; rw [Bool.and_eq_true, Nat.ble_eq, Nat.ble_eq]; omega
  simp only [qH, hq, hc, show Nat.beq (m + 1) 0 = false from rfl, hr, show Nat.ble (m + 1) 0 = false from rfl, cond, List.nil_append, Nat.zero_add]
  rfl
theorem iapp_cp0 {j q : Nat} {cc : Nat} {cells : List Value} : ∀ (o : Tr AObj) (nx : Nat) (lg : List Nat) (fid : Nat), o.get j = some (.row cells 3 1 true) →
    aAppend Try.prog 27 27 (.slice (some ⟨q, 0, none⟩) 0 1) (.slice (some ⟨j, 0, none⟩) 0 cc) fid ⟨o, nx, lg⟩ = some (.slice (some ⟨q, 0, none⟩) 0 1, ⟨o, nx, lg⟩) := by
  intro o nx lg fid hj
  have h : addCells 1 (.slice (some ⟨j, 0, none⟩) 0 cc) ⟨o, nx, lg⟩ = some (0, []) := by
    have hc : cut cells 0 (0 * 1) = some [] := by simp [cut]
    simp only [addCells, qH, hj, hc]; rfl
  rw [appOf_at app_int, h]; rfl
/-- a copy of a list of numbers -/
def IClone (o : Tr AObj) (nx : Nat) (lg : List Nat) (a : Option Nat) (xs : List Int) (r : Value × AHeap) : Prop :=
  ∃ ca cc o' nx', r = (.slice (slA ca) xs.length cc, ⟨o', nx', lg⟩) ∧ nx ≤ nx' ∧ IntsIn o' nx' ca xs ∧ (cc = 0 ∨ (cc = 1 ∧ xs = [] ∧ ca ≠ none)) ∧ (∀ q, ca = some q → nx ≤ q) ∧ (∀ x, x < nx → o'.get x = o.get x) ∧ (a ≠ none → nx < nx') ∧ (a = none → nx' = nx) ∧ (a = none ↔ ca = none)
section
variable {O : Helps} {n : Nat} {o : Tr AObj} {nx : Nat} {lg : List Nat} {i : Nat} {a b : Option Nat} {st : PS}
set_option maxHeartbeats 8000000 in
theorem iclone_ok (hO : Clear O) {xs : List Int} {cc : Nat} (h : IntsIn o nx a xs) (hc : a = none → cc = 0) (hl : xs.length ≤ 1000000) : Got (oCall Try.prog [] O (n + 1) 27 [.slice (slA a) xs.length cc] ⟨o, nx, lg⟩) (IClone o nx lg a xs) := by
  rw [y_fn (rs := [.tmp 2]) (hO _ (by decide)) Try.func27 rfl (by kernel_rfl) rfl rfl]
  rcases h with ⟨rfl, rfl⟩ | ⟨j, rest, rfl, hj, hrow⟩
  · have hcc : cc = 0 := hc rfl
    subst hcc
    repeat (first | with_reducible (first | refine n_on ?_ | refine n_seq ?_ | refine s_else ?_ | refine n_t ?_ | refine n_gt ?_ | refine d_t ?_ | refine n_nil ?_ | refine d_nil ?_ | refine n_block ?_ | refine n_skip ?_ | refine n_bon ?_ | refine n_bback ?_ | refine n_back ?_ | refine n_out ?_ | refine n_bout rfl ?_ | refine n_bfar rfl ?_ | refine n_ret ?_ | refine n_exit ?_ | refine n_label ?_ | refine n_scope ?_ | refine n_son ?_ | refine n_sback ?_) | (with_reducible (first | apply n_region | apply d_region); (simp only [JV, JU, JW, Nat.reduceAdd, Nat.zero_add]; exact rfl)) | (with_reducible (first | apply s_op | apply n_guard | apply n_cond | apply d_guard | apply d_op | apply n_fin | apply n_finb); (simp (maxDischargeDepth := 6) only [sy3.1, zY, qG, qP, qQ, qR, qS, qT, rowAt, ↓jg, ↓ji, Nat.reduceAdd, Nat.reduceEqDiff, ne_eq, jG, Nat.reduceLT, if_true, ite_true, Int.reduceLE, Int.reduceLT, Int.reduceEq, Int.reduceNeg, Int.reduceAdd, Nat.reduceSub, if_false, ite_false, fs_27.1, slA, islice0_eql, kind_pure, kind_load, kind_fresh, kind_other, jg, ji, undef]; first | exact rfl | exact ⟨rfl, rfl, rfl, rfl⟩); try (with_reducible refine calmK_in ?_; decide +kernel)))
    refine quiet_end (by rfl) (by rfl) ?_
    exact ⟨none, 0, _, _, rfl, Nat.le_refl _, .inl ⟨rfl, rfl⟩, .inl rfl, fun q e => (by cases e), fun _ _ => rfl, fun e => absurd rfl e, fun _ => rfl, ⟨fun _ => rfl, fun _ => rfl⟩⟩
  · cases hm : xs.length with
    | zero =>
      have hl0 : xs = [] := List.eq_nil_of_length_eq_zero hm
      subst hl0
      have hvn := fun q => iapp_cp0 (cc := cc) (j := j) (q := q) (cells := [].map (Value.int .i64) ++ rest)
      repeat (first | with_reducible (first | refine n_on ?_ | refine n_seq ?_ | refine s_else ?_ | refine n_t ?_ | refine n_gt ?_ | refine d_t ?_ | refine n_nil ?_ | refine d_nil ?_ | refine n_block ?_ | refine n_skip ?_ | refine n_bon ?_ | refine n_bback ?_ | refine n_back ?_ | refine n_out ?_ | refine n_bout rfl ?_ | refine n_bfar rfl ?_ | refine n_ret ?_ | refine n_exit ?_ | refine n_label ?_ | refine n_scope ?_ | refine n_son ?_ | refine n_sback ?_) | (with_reducible (first | apply n_region | apply d_region); (simp only [JV, JU, JW, Nat.reduceAdd, Nat.zero_add]; exact rfl)) | (with_reducible (first | apply s_op | apply n_guard | apply n_cond | apply d_guard | apply d_op | apply n_fin | apply n_finb); (simp (maxDischargeDepth := 6) only [sy3.1, zY, qG, qP, qQ, qR, qS, qT, rowAt, ↓jg, ↓ji, Nat.reduceAdd, Nat.reduceEqDiff, ne_eq, jG, Nat.reduceLT, if_true, ite_true, Int.reduceLE, Int.reduceLT, Int.reduceEq, Int.reduceNeg, Int.reduceAdd, Nat.reduceSub, if_false, ite_false, fs_27.1, slA, hj, hrow, st_buildSliceV, build_int0, hvn, kind_pure, kind_load, kind_fresh, kind_other, jg, ji, undef]; first | exact rfl | exact ⟨rfl, rfl, rfl, rfl⟩); try (with_reducible refine calmK_in ?_; decide +kernel)))
      exact ⟨some (nx + 3), 1, _, _, leave_out (by rfl) (show Nat.blt (nx + 3) nx = false from blt_big (by omega)), by omega, .inr ⟨_, [], rfl, by omega, qE _ _ _⟩, .inr ⟨rfl, rfl, by simp⟩, fun q e => (by cases e; omega), fun x hx => qF _ _ _ _ (by omega), fun _ => by omega, fun e => (by cases e), ⟨fun e => (by cases e), fun e => (by cases e)⟩⟩
    | succ m =>
      repeat (first | with_reducible (first | refine n_on ?_ | refine n_seq ?_ | refine s_else ?_ | refine n_t ?_ | refine n_gt ?_ | refine d_t ?_ | refine n_nil ?_ | refine d_nil ?_ | refine n_block ?_ | refine n_skip ?_ | refine n_bon ?_ | refine n_bback ?_ | refine n_back ?_ | refine n_out ?_ | refine n_bout rfl ?_ | refine n_bfar rfl ?_ | refine n_ret ?_ | refine n_exit ?_ | refine n_label ?_ | refine n_scope ?_ | refine n_son ?_ | refine n_sback ?_) | (with_reducible (first | apply n_region | apply d_region); (simp only [JV, JU, JW, Nat.reduceAdd, Nat.zero_add]; exact rfl)) | (with_reducible (first | apply s_op | apply n_guard | apply n_cond | apply d_guard | apply d_op | apply n_fin | apply n_finb); (simp (maxDischargeDepth := 6) only [sy3.1, zY, qG, qP, qQ, qR, qS, qT, rowAt, ↓jg, ↓ji, Nat.reduceAdd, Nat.reduceEqDiff, ne_eq, jG, Nat.reduceLT, if_true, ite_true, Int.reduceLE, Int.reduceLT, Int.reduceEq, Int.reduceNeg, Int.reduceAdd, Nat.reduceSub, if_false, ite_false, fs_27.1, slA, hj, hrow, st_buildSliceV, build_int0, iapp_cp (cc := cc) (rest := rest) (j := j) hm hl, kind_pure, kind_load, kind_fresh, kind_other, jg, ji, undef]; first | exact rfl | exact ⟨rfl, rfl, rfl, rfl⟩); try (with_reducible refine calmK_in ?_; decide +kernel)))
      unfold IClone
      rw [hm]
      exact ⟨some (nx + 5), 0, _, _, leave_out (by rfl) (show Nat.blt (nx + 5) nx = false from blt_big (by omega)), by omega, .inr ⟨_, [], rfl, by omega, by rw [List.append_nil]; exact qE _ _ _⟩, .inl rfl, fun q e => (by cases e; omega), fun x hx => by (repeat (first | rw [qE] | rw [qF _ _ _ _ (by omega)])), fun _ => by omega, fun e => (by cases e), ⟨fun e => (by cases e), fun e => (by cases e)⟩⟩
/-- a list of numbers, told anew -/
def IList (o : Tr AObj) (nx : Nat) (lg : List Nat) (xs : List Int) (r : Value × AHeap) : Prop :=
  ∃ ca o' nx', r = (.slice (slA ca) xs.length 0, ⟨o', nx', lg⟩) ∧ nx ≤ nx' ∧ IntsIn o' nx' ca xs ∧ (∀ x, x < nx → o'.get x = o.get x) ∧ (xs = [] → nx' = nx) ∧ (xs ≠ [] → nx < nx')
set_option maxHeartbeats 16000000 in
theorem pids_ok (hO : Clear O) (h : PoolIn o nx i a b st) (hl : st.sizes.length ≤ 65536) (hn : st.sizes.length < n) : Got (oCall Try.prog [] O (n + 2) 20 [.pointer (some ⟨i, 0, none⟩)] ⟨o, nx, lg⟩) (IList o nx lg (idsP st)) := by
  obtain ⟨z, cf, hr, hcf⟩ := h.row
  have hi := h.lt
  rw [y_fn (rs := [.tmp 2]) (hO _ (by decide)) Try.func20 rfl (by kernel_rfl) rfl rfl]
  repeat (first | with_reducible (first | refine n_on ?_ | refine n_seq ?_ | refine s_else ?_ | refine n_t ?_ | refine n_gt ?_ | refine d_t ?_ | refine n_nil ?_ | refine d_nil ?_ | refine n_block ?_ | refine n_skip ?_ | refine n_bon ?_ | refine n_bback ?_ | refine n_back ?_ | refine n_out ?_ | refine n_bout rfl ?_ | refine n_bfar rfl ?_ | refine n_ret ?_ | refine n_exit ?_ | refine n_label ?_ | refine n_scope ?_ | refine n_son ?_ | refine n_sback ?_) | (with_reducible (first | apply n_region | apply d_region); (simp only [JV, JU, JW, Nat.reduceAdd, Nat.zero_add]; exact rfl)) | (with_reducible (first | apply s_op | apply n_guard | apply n_cond | apply d_guard | apply d_op | apply n_fin | apply n_finb); (simp (maxDischargeDepth := 6) only [sy3.1, zY, qG, qP, qQ, qR, qS, qT, rowAt, ↓jg, ↓ji, Nat.reduceAdd, Nat.reduceEqDiff, ne_eq, jG, Nat.reduceLT, if_true, ite_true, Int.reduceLE, Int.reduceLT, Int.reduceEq, Int.reduceNeg, Int.reduceAdd, Nat.reduceSub, if_false, ite_false, fs_20.1, hr, hi, pnone_ok hO hr, kind_pure, kind_load, kind_fresh, kind_other, jg, ji, undef]; first | exact rfl | exact ⟨rfl, rfl, rfl, rfl⟩); try (with_reducible refine calmK_in ?_; decide +kernel)))
  refine loop_cut (i := 0) (I := fun e' H => ∃ o' nx' lg' a', H = (⟨o', nx', lg'⟩ : AHeap) ∧ nx ≤ nx' ∧ lg'.all (fun i => Nat.ble nx i) = true ∧ (∀ x, x < nx → o'.get x = o.get x) ∧ OwnL o' nx a' (idsP st) ∧ (∀ q, a' = some q → q < nx') ∧ e'.get 3 = some (.slice (slA a') (idsP st).length 0)) ?_ ?_
  · rw [y_loop_eq]
    refine y_loop (I := fun q e' H => ∃ d r o' nx' lg' a', st.sizes = d ++ r ∧ r.length = q ∧ H = (⟨o', nx', lg'⟩ : AHeap) ∧ nx ≤ nx' ∧ lg'.all (fun i => Nat.ble nx i) = true ∧ (∀ x, x < nx → o'.get x = o.get x) ∧ OwnL o' nx a' (idsFrom d 0) ∧ (∀ q, a' = some q → q < nx') ∧ e'.get 3 = some (.slice (slA a') (idsFrom d 0).length 0) ∧ e'.get 11 = some (.slice (slA a) st.sizes.length 0) ∧ e'.get 12 = some (.int .i64 (.ofNat st.sizes.length)) ∧ e'.get 13 = some (.int .i64 (.ofNat d.length))) ?_ st.sizes.length _ _ _ ⟨[], st.sizes, _, _, _, none, rfl, rfl, rfl, by omega, by rfl, fun _ _ => rfl, .inl ⟨rfl, rfl⟩, fun q e => (by cases e), ?_, ?_, ?_, ?_⟩ (by omega)
    rotate_left
    · simp only [qC, qD, qE, qF, Tr.get_nil, ne_eq, not_false_eq_true, Nat.reduceEqDiff]; rfl
    · simp only [qC, qD, qE, qF, Tr.get_nil, ne_eq, not_false_eq_true, Nat.reduceEqDiff]
    · simp only [qC, qD, qE, qF, Tr.get_nil, ne_eq, not_false_eq_true, Nat.reduceEqDiff]
    · simp only [qC, qD, qE, qF, Tr.get_nil, ne_eq, not_false_eq_true, Nat.reduceEqDiff]; rfl
    rintro q e' H ⟨d, r, o9, N9, lg9, a1, hdr, hq, rfl, p1, p2, p3, p4, p5, g3, g11, g12, g13⟩
    have hdl : d.length + r.length = st.sizes.length := by rw [hdr, List.length_append]
    cases r with
    | nil =>
      have hlt : decide (d.length < st.sizes.length) = false := decide_eq_false (by rw [← hdl]; simp)
      repeat (first | with_reducible (first | refine n_on ?_ | refine n_seq ?_ | refine s_else ?_ | refine n_t ?_ | refine n_gt ?_ | refine d_t ?_ | refine n_nil ?_ | refine d_nil ?_ | refine n_block ?_ | refine n_skip ?_ | refine n_bon ?_ | refine n_bback ?_ | refine n_back ?_ | refine n_out ?_ | refine n_bout rfl ?_ | refine n_bfar rfl ?_ | refine n_ret ?_ | refine n_exit ?_ | refine n_label ?_ | refine n_scope ?_ | refine n_son ?_ | refine n_sback ?_) | (with_reducible (first | apply n_region | apply d_region); (simp only [JV, JU, JW, Nat.reduceAdd, Nat.zero_add]; exact rfl)) | (with_reducible (first | apply s_op | apply n_guard | apply n_cond | apply d_guard | apply d_op | apply n_fin | apply n_finb); (simp (maxDischargeDepth := 6) only [sy3.1, zY, qG, qP, qQ, qR, qS, qT, rowAt, ↓jg, ↓ji, Nat.reduceAdd, Nat.reduceEqDiff, ne_eq, jG, Nat.reduceLT, if_true, ite_true, Int.reduceLE, Int.reduceLT, Int.reduceEq, Int.reduceNeg, Int.reduceAdd, Nat.reduceSub, if_false, ite_false, fs_20.1, g3, g11, g12, g13, hlt, kind_pure, kind_load, kind_fresh, kind_other, jg, ji, undef]; first | exact rfl | exact ⟨rfl, rfl, rfl, rfl⟩); try (with_reducible refine calmK_in ?_; decide +kernel)))
      rw [List.append_nil] at hdr
      refine ⟨_, _, rfl, _, _, _, a1, rfl, by omega, p2, p3, ?_, fun q e => by have := p5 q e; omega, ?_⟩
      · unfold idsP; rw [hdr]; exact p4
      · simp only [qC, qD, qE, qF, Tr.get_nil, ne_eq, not_false_eq_true, Nat.reduceEqDiff, g3]; unfold idsP; rw [hdr]
    | cons x r =>
      simp only [List.length_cons] at hdl hq
      have hlt : decide (d.length < st.sizes.length) = true := decide_eq_true (by omega)
      have hz := h.sz
      rw [hdr] at hz
      obtain ⟨j, rest, haj, hj, hrow, hc⟩ := ints_mid hz
      rw [← hdr] at hrow hc
      subst haj
      have g11b : e'.get 11 = some (.slice (some ⟨j, 0, none⟩) st.sizes.length 0) := g11
      have hrow9 := (p3 j hj).trans hrow
      have hj9 : j < N9 := by omega
      have l1 : Nat.blt d.length st.sizes.length = true := by rw [Nat.blt_eq]; omega
      have n1 : decide (st.sizes.length ≤ d.length) = false := decide_eq_false (by omega)
      have hw1 : IntKind.i64.wrap (Int.ofNat d.length + 1) = Int.ofNat (d.length + 1) := by rw [wrap_small _ (by simp only [Int.ofNat_eq_natCast]; omega) (by simp only [Int.ofNat_eq_natCast]; omega)]; rfl
      have hids : idsFrom (d ++ [x]) 0 = if 0 ≤ x then idsFrom d 0 ++ [Int.ofNat (d.length + 1)] else idsFrom d 0 := by
        rw [ids_app]
        simp only [idsFrom, Nat.zero_add]
        split
        · rfl
        · rw [List.append_nil]
      by_cases hx : 0 ≤ x
      · rw [if_pos hx] at hids
        repeat (first | with_reducible (first | refine n_on ?_ | refine n_seq ?_ | refine s_else ?_ | refine n_t ?_ | refine n_gt ?_ | refine d_t ?_ | refine n_nil ?_ | refine d_nil ?_ | refine n_block ?_ | refine n_skip ?_ | refine n_bon ?_ | refine n_bback ?_ | refine n_back ?_ | refine n_out ?_ | refine n_bout rfl ?_ | refine n_bfar rfl ?_ | refine n_ret ?_ | refine n_exit ?_ | refine n_label ?_ | refine n_scope ?_ | refine n_son ?_ | refine n_sback ?_) | (with_reducible (first | apply n_region | apply d_region); (simp only [JV, JU, JW, Nat.reduceAdd, Nat.zero_add]; exact rfl)) | (with_reducible (first | apply s_op | apply n_guard | apply n_cond | apply d_guard | apply d_op | apply n_fin | apply n_finb); (simp (maxDischargeDepth := 6) only [sy3.1, zY, qG, qP, qQ, qR, qS, qT, rowAt, ↓jg, ↓ji, Nat.reduceAdd, Nat.reduceEqDiff, ne_eq, jG, Nat.reduceLT, if_true, ite_true, Int.reduceLE, Int.reduceLT, Int.reduceEq, Int.reduceNeg, Int.reduceAdd, Nat.reduceSub, if_false, ite_false, fs_20.1, g3, g11b, g12, g13, hlt, hrow9, hj9, hc, l1, n1, hw1, decide_eq_true hx, indexAt, Option.isNone_none, Nat.mul_one, st_buildSliceV, build_int, kind_pure, kind_load, kind_fresh, kind_other, jg, ji, undef]; first | exact rfl | exact ⟨rfl, rfl, rfl, rfl⟩); try (with_reducible refine calmK_in ?_; decide +kernel)))
        obtain ⟨o2, lg2, happ, hk2, hfid, hlg2⟩ := app_one (nx := N9 + 14) (fid := N9 + 12) (lo := nx) (lg := lg9) (v := .slice (some ⟨N9 + 11, 0, none⟩) 1 2) (o := o9.put (N9 + 11) (some (.row [.int .i64 (Int.ofNat (d.length + 1))] 3 1 true))) (p4.keep fun q e => by have := p5 q e; (repeat (first | rw [qE] | rw [qF _ _ _ _ (by omega)]))) (add_int (Int.ofNat (d.length + 1)) (qE _ _ _)) (by have := ids_free_len d 0; omega) (fun q e => by have := p5 q e; omega) p2
        refine s_do _ (by
          simp (maxDischargeDepth := 6) only [sy3.1, zY, qG, qP, qQ, qR, qS, qT, rowAt, ↓jg, ↓ji, Nat.reduceAdd, Nat.reduceEqDiff, ne_eq, jG, Nat.reduceLT, if_true, ite_true, Int.reduceLE, Int.reduceLT, Int.reduceEq, Int.reduceNeg, Int.reduceAdd, Nat.reduceSub, if_false, ite_false, fs_20.1]
          exact got_eq happ) ?_
        rintro _ _ heq
        cases heq
        repeat (first | with_reducible (first | refine n_on ?_ | refine n_seq ?_ | refine s_else ?_ | refine n_t ?_ | refine n_gt ?_ | refine d_t ?_ | refine n_nil ?_ | refine d_nil ?_ | refine n_block ?_ | refine n_skip ?_ | refine n_bon ?_ | refine n_bback ?_ | refine n_back ?_ | refine n_out ?_ | refine n_bout rfl ?_ | refine n_bfar rfl ?_ | refine n_ret ?_ | refine n_exit ?_ | refine n_label ?_ | refine n_scope ?_ | refine n_son ?_ | refine n_sback ?_) | (with_reducible (first | apply n_region | apply d_region); (simp only [JV, JU, JW, Nat.reduceAdd, Nat.zero_add]; exact rfl)) | (with_reducible (first | apply s_op | apply n_guard | apply n_cond | apply d_guard | apply d_op | apply n_fin | apply n_finb); (simp (maxDischargeDepth := 6) only [sy3.1, zY, qG, qP, qQ, qR, qS, qT, rowAt, ↓jg, ↓ji, Nat.reduceAdd, Nat.reduceEqDiff, ne_eq, jG, Nat.reduceLT, if_true, ite_true, Int.reduceLE, Int.reduceLT, Int.reduceEq, Int.reduceNeg, Int.reduceAdd, Nat.reduceSub, if_false, ite_false, fs_20.1, g11b, g12, g13, hw1, kind_pure, kind_load, kind_fresh, kind_other, jg, ji, undef]; first | exact rfl | exact ⟨rfl, rfl, rfl, rfl⟩); try (with_reducible refine calmK_in ?_; decide +kernel)))
        refine ⟨r.length, by omega, d ++ [x], r, _, _, _, some (N9 + 12), by rw [hdr, List.append_assoc]; rfl, rfl, rfl, by omega, hlg2, fun x hx => ?_, ?_, fun q e => by cases e; omega, ?_, ?_, ?_, ?_⟩
        · rw [hk2 x (by omega) (fun e => by have := p4.mine e; omega)]
          (repeat (first | rw [qE] | rw [qF _ _ _ _ (by omega)]))
          exact p3 x hx
        · rw [hids]
          exact .inr ⟨_, rfl, by omega, by simp, hfid⟩
        · rw [hids]
          simp only [qC, qD, qE, qF, Tr.get_nil, ne_eq, not_false_eq_true, Nat.reduceEqDiff]
          rw [List.length_append]; rfl
        · simp only [qC, qD, qE, qF, Tr.get_nil, ne_eq, not_false_eq_true, Nat.reduceEqDiff, g11]
        · simp only [qC, qD, qE, qF, Tr.get_nil, ne_eq, not_false_eq_true, Nat.reduceEqDiff, g12]
        · simp only [qC, qD, qE, qF, Tr.get_nil, ne_eq, not_false_eq_true, Nat.reduceEqDiff]; rw [List.length_append]; rfl
      · rw [if_neg hx] at hids
        repeat (first | with_reducible (first | refine n_on ?_ | refine n_seq ?_ | refine s_else ?_ | refine n_t ?_ | refine n_gt ?_ | refine d_t ?_ | refine n_nil ?_ | refine d_nil ?_ | refine n_block ?_ | refine n_skip ?_ | refine n_bon ?_ | refine n_bback ?_ | refine n_back ?_ | refine n_out ?_ | refine n_bout rfl ?_ | refine n_bfar rfl ?_ | refine n_ret ?_ | refine n_exit ?_ | refine n_label ?_ | refine n_scope ?_ | refine n_son ?_ | refine n_sback ?_) | (with_reducible (first | apply n_region | apply d_region); (simp only [JV, JU, JW, Nat.reduceAdd, Nat.zero_add]; exact rfl)) | (with_reducible (first | apply s_op | apply n_guard | apply n_cond | apply d_guard | apply d_op | apply n_fin | apply n_finb); (simp (maxDischargeDepth := 6) only [sy3.1, zY, qG, qP, qQ, qR, qS, qT, rowAt, ↓jg, ↓ji, Nat.reduceAdd, Nat.reduceEqDiff, ne_eq, jG, Nat.reduceLT, if_true, ite_true, Int.reduceLE, Int.reduceLT, Int.reduceEq, Int.reduceNeg, Int.reduceAdd, Nat.reduceSub, if_false, ite_false, fs_20.1, g3, g11b, g12, g13, hlt, hrow9, hj9, hc, l1, n1, hw1, decide_eq_false hx, indexAt, Option.isNone_none, Nat.mul_one, st_buildSliceV, build_int, kind_pure, kind_load, kind_fresh, kind_other, jg, ji, undef]; first | exact rfl | exact ⟨rfl, rfl, rfl, rfl⟩); try (with_reducible refine calmK_in ?_; decide +kernel)))
        refine ⟨r.length, by omega, d ++ [x], r, _, _, _, a1, by rw [hdr, List.append_assoc]; rfl, rfl, rfl, by omega, p2, p3, by rw [hids]; exact p4, fun q e => by have := p5 q e; omega, ?_, ?_, ?_, ?_⟩
        · rw [hids]; simp only [qC, qD, qE, qF, Tr.get_nil, ne_eq, not_false_eq_true, Nat.reduceEqDiff, g3]
        · simp only [qC, qD, qE, qF, Tr.get_nil, ne_eq, not_false_eq_true, Nat.reduceEqDiff, g11]
        · simp only [qC, qD, qE, qF, Tr.get_nil, ne_eq, not_false_eq_true, Nat.reduceEqDiff, g12]
        · simp only [qC, qD, qE, qF, Tr.get_nil, ne_eq, not_false_eq_true, Nat.reduceEqDiff]; rw [List.length_append]; rfl
  · rintro e1 H1 ⟨o9, N9, lg9, a1, rfl, p1, p2, p3, p4, p5, g3⟩
    refine n_bout rfl ?_
    refine n_on ?_
    repeat (first | with_reducible (first | refine n_on ?_ | refine n_seq ?_ | refine s_else ?_ | refine n_t ?_ | refine n_gt ?_ | refine d_t ?_ | refine n_nil ?_ | refine d_nil ?_ | refine n_block ?_ | refine n_skip ?_ | refine n_bon ?_ | refine n_bback ?_ | refine n_back ?_ | refine n_out ?_ | refine n_bout rfl ?_ | refine n_bfar rfl ?_ | refine n_ret ?_ | refine n_exit ?_ | refine n_label ?_ | refine n_scope ?_ | refine n_son ?_ | refine n_sback ?_) | (with_reducible (first | apply n_region | apply d_region); (simp only [JV, JU, JW, Nat.reduceAdd, Nat.zero_add]; exact rfl)) | (with_reducible (first | apply s_op | apply n_guard | apply n_cond | apply d_guard | apply d_op | apply n_fin | apply n_finb); (simp (maxDischargeDepth := 6) only [sy3.1, zY, qG, qP, qQ, qR, qS, qT, rowAt, ↓jg, ↓ji, Nat.reduceAdd, Nat.reduceEqDiff, ne_eq, jG, Nat.reduceLT, if_true, ite_true, Int.reduceLE, Int.reduceLT, Int.reduceEq, Int.reduceNeg, Int.reduceAdd, Nat.reduceSub, if_false, ite_false, fs_20.1, g3, kind_pure, kind_load, kind_fresh, kind_other, jg, ji, undef]; first | exact rfl | exact ⟨rfl, rfl, rfl, rfl⟩); try (with_reducible refine calmK_in ?_; decide +kernel)))
    rcases p4 with ⟨rfl, e⟩ | ⟨q, rfl, hq, hne, hrow⟩
    · rw [e]
      exact ⟨none, o, nx, Ja p2 (by rfl), Nat.le_refl _, .inl ⟨rfl, rfl⟩, fun _ _ => rfl, fun _ => rfl, fun h => absurd rfl h⟩
    · exact ⟨some q, o9, N9 + 2, leave_out p2 (show Nat.blt q nx = false from blt_big hq), by omega, .inr ⟨q, [], rfl, by have := p5 q rfl; omega, by rw [List.append_nil]; exact hrow⟩, p3, fun e => absurd e hne, fun _ => by omega⟩
end
end Go.Proofs.Yticeabhilkceiaa
