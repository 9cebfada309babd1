/- Pool: Take, on the abstract machine. -/
import Derived.Test.YthnlkahgmbadoaaPmLeast
import Derived.Test.YthnlkahgmbadoaaPoolKeep
namespace Go.Proofs.Ythnlkahgmbadoaa
open Go.RowKit
set_option linter.unusedSimpArgs false
set_option linter.unusedVariables false
set_option maxRecDepth 100000

theorem app_int : appOf Try.prog 75 75 = some (3, 1, 8) := by kernel_rfl
theorem build_int (x : Int) : ∀ fid H, buildSliceV Try.prog 75 1 [(0, .int .i64 x)] fid H = some (.slice (some ⟨fid, 0, none⟩) 1 2, newRowA fid [.int .i64 x] 3 1 H) := fun fid H => by kernel_rfl
theorem add_int (x : Int) {o : Tr AObj} {nx : Nat} {lg : List Nat} {q c : Nat} (h : o.get q = some (.row [.int .i64 x] 3 1 true)) : addCells 1 (.slice (some ⟨q, 0, none⟩) 1 c) ⟨o, nx, lg⟩ = some (0 + 1, [.int .i64 x]) := by
  simp only [addCells, qH, h]; rfl
theorem iapp_none (x : Int) : ∀ (o : Tr AObj) (nx : Nat) (lg : List Nat) (fid q c : Nat), o.get q = some (.row [.int .i64 x] 3 1 true) → aAppend Try.prog 75 75 (.slice none 0 0) (.slice (some ⟨q, 0, none⟩) 1 c) fid ⟨o, nx, lg⟩ = some (.slice (some ⟨fid, 0, none⟩) 1 0, ⟨o.put fid (some (.row [.int .i64 x] 3 1 true)), nx, lg⟩) :=
  fun o nx lg fid q c hg => app_none app_int (add_int x hg) (by decide)
theorem iapp_some (x : Int) (j : Nat) (xs : List Int) (rest : List Value) (hl : xs.length ≤ 1000000) : ∀ (o : Tr AObj) (nx : Nat) (lg : List Nat) (fid q c : Nat), o.get q = some (.row [.int .i64 x] 3 1 true) → o.get j = some (.row (xs.map (Value.int .i64) ++ rest) 3 1 true) →
    aAppend Try.prog 75 75 (.slice (some ⟨j, 0, none⟩) xs.length 0) (.slice (some ⟨q, 0, none⟩) 1 c) fid ⟨o, nx, lg⟩ = some (.slice (some ⟨fid, 0, none⟩) (xs.length + 1) 0, ⟨(o.put j none).put fid (some (.row ((xs ++ [x]).map (Value.int .i64)) 3 1 true)), nx, noteId j lg⟩) :=
  fun o nx lg fid q c hg hj =>
    (app_row (n := xs.length) (olds := xs.map (Value.int .i64)) (H := ⟨o, nx, lg⟩) app_int (add_int x hg) hj (cut_in (by rw [List.length_map, Nat.mul_one]) [] rest rfl rfl) (by unfold roomOk; rw [Bool.and_eq_true, Nat.ble_eq, Nat.ble_eq]; omega) (by rfl)).trans (by rw [List.map_append]; rfl)
theorem iapp_cap0 (x : Int) (j : Nat) : ∀ (o : Tr AObj) (nx : Nat) (lg : List Nat) (fid q c : Nat) (cells : List Value) (e z : Nat) (own : Bool), o.get q = some (.row [.int .i64 x] 3 1 true) → o.get j = some (.row cells e z own) →
    aAppend Try.prog 75 75 (.slice (some ⟨j, 0, none⟩) 0 1) (.slice (some ⟨q, 0, none⟩) 1 c) fid ⟨o, nx, lg⟩ = some (.slice (some ⟨fid, 0, none⟩) 1 0, ⟨o.put fid (some (.row [.int .i64 x] 3 1 true)), nx, lg⟩) := by
  intro o nx lg fid q c cells e z own hg hj
  rw [appOf_at app_int, add_int x hg]
  have hc : cut cells 0 (0 * 1) = some [] := by simp [cut]
  simp only [qH, hj, hc, show Nat.beq (0 + 1) 0 = false from rfl, show roomOk (0 + (0 + 1)) 8 = true from by decide, show Nat.ble (0 + (0 + 1)) 0 = false from rfl, cond, List.nil_append, Nat.zero_add]
  rfl
theorem PoolIn.put {o : Tr AObj} {nx nx' i : Nat} {a b : Option Nat} {st : PS} (h : PoolIn o nx i a b st) (hn : nx ≤ nx') (us ct : Int) (z : Nat) {cf : Nat} (hcf : PMk a b st.sizes st.free cf) :
    PoolIn (o.put i (some (.row [.bool true, .int .i64 st.bound, .int .i64 us, .int .i64 ct, .slice (slA a) st.sizes.length 0, .slice (slA b) st.free.length cf] 88 z true))) nx' i a b { st with used := us, count := ct } :=
  ⟨Nat.lt_of_lt_of_le h.lt hn, ⟨z, cf, qE _ _ _, hcf⟩, h.sz.keep hn fun j e => qF _ _ _ _ (fun e2 => h.nea (by rw [e, e2])), h.fr.keep hn fun j e => qF _ _ _ _ (fun e2 => h.neb (by rw [e, e2])), h.nea, h.neb, h.neab⟩
/-- what a call that turns the pool leaves -/
def PoolTo (o : Tr AObj) (nx : Nat) (lg : List Nat) (i : Nat) (a b : Option Nat) (st st' : PS) (v : Value) (r : Value × AHeap) : Prop :=
  ∃ o' nx' lg' a' b', r = (v, ⟨o', nx', lg'⟩) ∧ nx ≤ nx' ∧ PoolIn o' nx' i a' b' st' ∧ (∀ x, x < nx → ¬ PMine i a b x → o'.get x = o.get x) ∧ (a' = a ∨ ∃ k, a' = some k ∧ nx ≤ k) ∧ (b' = b ∨ ∃ k, b' = some k ∧ nx ≤ k) ∧ (∀ y, y ∈ lg → y ∈ lg') ∧ (i ∈ lg' ∨ (o' = o ∧ nx' = nx ∧ lg' = lg ∧ a' = a ∧ b' = b ∧ st' = st))
section
variable {O : Helps} {n : Nat} {o : Tr AObj} {nx : Nat} {lg : List Nat} {i : Nat} {a b : Option Nat} {st : PS}
theorem PoolTo.same (h : PoolIn o nx i a b st) (v : Value) : PoolTo o nx lg i a b st st v (v, ⟨o, nx, lg⟩) := ⟨_, _, _, a, b, rfl, Nat.le_refl _, h, fun _ _ _ => rfl, .inl rfl, .inl rfl, fun _ h => h, .inr ⟨rfl, rfl, rfl, rfl, rfl, rfl⟩⟩
set_option maxHeartbeats 16000000 in
theorem ptake_ok (hO : Clear O) (h : PoolIn o nx i a b st) (hG : Good st) (size : Int) (hn : st.sizes.length < n) :
    Got (oCall Try.prog [] O (n + 3) 40 [.pointer (some ⟨i, 0, none⟩), .int .i64 size] ⟨o, nx, lg⟩) (PoolTo o nx lg i a b st (takeP st size).1 (.tuple #[.int .i64 (takeP st size).2.1, .int .i64 (takeP st size).2.2])) := by
  obtain ⟨z, cf, hr, hcf⟩ := h.row
  have hi := h.lt
  have hu0 := hG.used0
  have hle := hG.le
  have hb1 := hG.b1
  have hsz := hG.len
  have hcnt := hG.cnt
  rw [y_fn (rs := [.tmp 4, .tmp 5]) (hO _ (by decide)) Try.func40 rfl (by kernel_rfl) rfl rfl]
  by_cases h1 : size < 0
  · repeat (first | with_reducible (first | refine n_on ?_ | refine n_seq ?_ | refine s_else ?_ | refine n_t ?_ | refine n_gt ?_ | refine d_t ?_ | refine n_nil ?_ | refine d_nil ?_ | refine n_block ?_ | refine n_skip ?_ | refine n_bon ?_ | refine n_bback ?_ | refine n_back ?_ | refine n_out ?_ | refine n_bout rfl ?_ | refine n_bfar rfl ?_ | refine n_ret ?_ | refine n_exit ?_ | refine n_label ?_ | refine n_scope ?_ | refine n_son ?_ | refine n_sback ?_) | (with_reducible (first | apply n_region | apply d_region); (simp only [JV, JU, JW, Nat.reduceAdd, Nat.zero_add]; exact rfl)) | (with_reducible (first | apply s_op | apply n_guard | apply n_cond | apply d_guard | apply d_op | apply n_fin | apply n_finb); (simp (maxDischargeDepth := 6) only [sy3.1, zY, qG, qP, qQ, qR, qS, qT, rowAt, ↓jg, ↓ji, Nat.reduceAdd, Nat.reduceEqDiff, ne_eq, jG, Nat.reduceLT, if_true, ite_true, Int.reduceLE, Int.reduceLT, Int.reduceEq, Int.reduceNeg, Int.reduceAdd, Nat.reduceSub, if_false, ite_false, fs_40.1, slA, hr, pnone_ok hO hr, decide_eq_true h1, kind_pure, kind_load, kind_fresh, kind_other, jg, ji, undef]; first | exact rfl | exact ⟨rfl, rfl, rfl, rfl⟩); try (with_reducible refine calmK_in ?_; decide +kernel)))
    unfold takeP
    rw [if_pos h1]
    exact quiet_end (by rfl) (by rfl) (.same h _)
  have w0 : IntKind.i64.wrap (st.bound - st.used) = st.bound - st.used := wrap_small _ (by omega) (by omega)
  have d1 := decide_eq_false h1
  by_cases h2 : st.bound - st.used < size
  · repeat (first | with_reducible (first | refine n_on ?_ | refine n_seq ?_ | refine s_else ?_ | refine n_t ?_ | refine n_gt ?_ | refine d_t ?_ | refine n_nil ?_ | refine d_nil ?_ | refine n_block ?_ | refine n_skip ?_ | refine n_bon ?_ | refine n_bback ?_ | refine n_back ?_ | refine n_out ?_ | refine n_bout rfl ?_ | refine n_bfar rfl ?_ | refine n_ret ?_ | refine n_exit ?_ | refine n_label ?_ | refine n_scope ?_ | refine n_son ?_ | refine n_sback ?_) | (with_reducible (first | apply n_region | apply d_region); (simp only [JV, JU, JW, Nat.reduceAdd, Nat.zero_add]; exact rfl)) | (with_reducible (first | apply s_op | apply n_guard | apply n_cond | apply d_guard | apply d_op | apply n_fin | apply n_finb); (simp (maxDischargeDepth := 6) only [sy3.1, zY, qG, qP, qQ, qR, qS, qT, rowAt, ↓jg, ↓ji, Nat.reduceAdd, Nat.reduceEqDiff, ne_eq, jG, Nat.reduceLT, if_true, ite_true, Int.reduceLE, Int.reduceLT, Int.reduceEq, Int.reduceNeg, Int.reduceAdd, Nat.reduceSub, if_false, ite_false, fs_40.1, slA, hr, pnone_ok hO hr, d1, w0, decide_eq_true h2, kind_pure, kind_load, kind_fresh, kind_other, jg, ji, undef]; first | exact rfl | exact ⟨rfl, rfl, rfl, rfl⟩); try (with_reducible refine calmK_in ?_; decide +kernel)))
    unfold takeP
    rw [if_neg h1, if_pos (.inl h2)]
    exact quiet_end (by rfl) (by rfl) (.same h _)
  have d2 := decide_eq_false h2
  by_cases h3 : st.count = 65536
  · repeat (first | with_reducible (first | refine n_on ?_ | refine n_seq ?_ | refine s_else ?_ | refine n_t ?_ | refine n_gt ?_ | refine d_t ?_ | refine n_nil ?_ | refine d_nil ?_ | refine n_block ?_ | refine n_skip ?_ | refine n_bon ?_ | refine n_bback ?_ | refine n_back ?_ | refine n_out ?_ | refine n_bout rfl ?_ | refine n_bfar rfl ?_ | refine n_ret ?_ | refine n_exit ?_ | refine n_label ?_ | refine n_scope ?_ | refine n_son ?_ | refine n_sback ?_) | (with_reducible (first | apply n_region | apply d_region); (simp only [JV, JU, JW, Nat.reduceAdd, Nat.zero_add]; exact rfl)) | (with_reducible (first | apply s_op | apply n_guard | apply n_cond | apply d_guard | apply d_op | apply n_fin | apply n_finb); (simp (maxDischargeDepth := 6) only [sy3.1, zY, qG, qP, qQ, qR, qS, qT, rowAt, ↓jg, ↓ji, Nat.reduceAdd, Nat.reduceEqDiff, ne_eq, jG, Nat.reduceLT, if_true, ite_true, Int.reduceLE, Int.reduceLT, Int.reduceEq, Int.reduceNeg, Int.reduceAdd, Nat.reduceSub, if_false, ite_false, fs_40.1, slA, hr, pnone_ok hO hr, d1, w0, d2, decide_eq_true h3, kind_pure, kind_load, kind_fresh, kind_other, jg, ji, undef]; first | exact rfl | exact ⟨rfl, rfl, rfl, rfl⟩); try (with_reducible refine calmK_in ?_; decide +kernel)))
    unfold takeP
    rw [if_neg h1, if_pos (.inr h3)]
    exact quiet_end (by rfl) (by rfl) (.same h _)
  have d3 := decide_eq_false h3
  have w1 : IntKind.i64.wrap (st.used + size) = st.used + size := wrap_small _ (by omega) (by omega)
  have w2 : IntKind.i64.wrap (st.count + 1) = st.count + 1 := wrap_small _ (by omega) (by omega)
  have h23 : ¬ (st.bound - st.used < size ∨ st.count = 65536) := fun h => h.elim h2 h3
  by_cases h4 : st.free.length = 0
  · have d4 : decide (Int.ofNat st.free.length = 0) = true := decide_eq_true (by rw [h4]; rfl)
    have hT : takeP st size = ({ st with used := st.used + size, count := st.count + 1, sizes := st.sizes ++ [size] }, (st.sizes.length : Int) + 1, 0) := by
      unfold takeP; rw [if_neg h1, if_neg h23, if_pos h4]
    rw [hT]
    dsimp only
    rcases h.sz with ⟨rfl, e⟩ | ⟨j, rest, rfl, hj, hrow⟩
    · rw [e] at hr ⊢
      repeat (first | with_reducible (first | refine n_on ?_ | refine n_seq ?_ | refine s_else ?_ | refine n_t ?_ | refine n_gt ?_ | refine d_t ?_ | refine n_nil ?_ | refine d_nil ?_ | refine n_block ?_ | refine n_skip ?_ | refine n_bon ?_ | refine n_bback ?_ | refine n_back ?_ | refine n_out ?_ | refine n_bout rfl ?_ | refine n_bfar rfl ?_ | refine n_ret ?_ | refine n_exit ?_ | refine n_label ?_ | refine n_scope ?_ | refine n_son ?_ | refine n_sback ?_) | (with_reducible (first | apply n_region | apply d_region); (simp only [JV, JU, JW, Nat.reduceAdd, Nat.zero_add]; exact rfl)) | (with_reducible (first | apply s_op | apply n_guard | apply n_cond | apply d_guard | apply d_op | apply n_fin | apply n_finb); (simp (maxDischargeDepth := 6) only [sy3.1, zY, qG, qP, qQ, qR, qS, qT, rowAt, ↓jg, ↓ji, Nat.reduceAdd, Nat.reduceEqDiff, ne_eq, jG, Nat.reduceLT, if_true, ite_true, Int.reduceLE, Int.reduceLT, Int.reduceEq, Int.reduceNeg, Int.reduceAdd, Nat.reduceSub, if_false, ite_false, fs_40.1, slA, hr, pnone_ok hO hr, d1, w0, d2, d3, w1, w2, d4, hi, st_buildSliceV, build_int, iapp_none size, kind_pure, kind_load, kind_fresh, kind_other, jg, ji, undef]; first | exact rfl | exact ⟨rfl, rfl, rfl, rfl⟩); try (with_reducible refine calmK_in ?_; decide +kernel)))
      have hl0 : st.sizes = [] := e
      refine loud_end (x := i) (by simp only [in_relogL, in_note, true_or, or_true]) hi fun l' hmo hin => ?_
      refine ⟨_, _, _, some (nx + 57), b, rfl, by omega, ⟨by omega, ⟨z, cf, by rw [qE]; rfl, hcf.1, .inr (by simp)⟩, .inr ⟨_, [], rfl, by omega, by (repeat (first | rw [qE] | rw [qF _ _ _ _ (by omega)])); rfl⟩, h.fr.keep (by omega) fun k e => ?_, by intro e; cases e; omega, h.neb, fun k e e2 => by cases e; have := h.fr.lt e2; omega⟩, fun x hx hm => ?_, .inr ⟨_, rfl, by omega⟩, .inl rfl, hmo, .inl (hin i (by simp only [in_relogL, in_note, true_or, or_true]) hi)⟩
      · have := h.fr.lt e
        have : k ≠ i := fun e2 => h.neb (by rw [e, e2])
        (repeat (first | rw [qE] | rw [qF _ _ _ _ (by omega)]))
      · have : x ≠ i := fun e => hm (.inl e)
        (repeat (first | rw [qE] | rw [qF _ _ _ _ (by omega)]))
    · have hji : j ≠ i := fun e => h.nea (by rw [e])
      have hij := Ne.symm hji
      repeat (first | with_reducible (first | refine n_on ?_ | refine n_seq ?_ | refine s_else ?_ | refine n_t ?_ | refine n_gt ?_ | refine d_t ?_ | refine n_nil ?_ | refine d_nil ?_ | refine n_block ?_ | refine n_skip ?_ | refine n_bon ?_ | refine n_bback ?_ | refine n_back ?_ | refine n_out ?_ | refine n_bout rfl ?_ | refine n_bfar rfl ?_ | refine n_ret ?_ | refine n_exit ?_ | refine n_label ?_ | refine n_scope ?_ | refine n_son ?_ | refine n_sback ?_) | (with_reducible (first | apply n_region | apply d_region); (simp only [JV, JU, JW, Nat.reduceAdd, Nat.zero_add]; exact rfl)) | (with_reducible (first | apply s_op | apply n_guard | apply n_cond | apply d_guard | apply d_op | apply n_fin | apply n_finb); (simp (maxDischargeDepth := 6) only [sy3.1, zY, qG, qP, qQ, qR, qS, qT, rowAt, ↓jg, ↓ji, Nat.reduceAdd, Nat.reduceEqDiff, ne_eq, jG, Nat.reduceLT, if_true, ite_true, Int.reduceLE, Int.reduceLT, Int.reduceEq, Int.reduceNeg, Int.reduceAdd, Nat.reduceSub, if_false, ite_false, fs_40.1, slA, hr, pnone_ok hO hr, d1, w0, d2, d3, w1, w2, d4, hi, hj, hji, hij, hrow, st_buildSliceV, build_int, iapp_some size j st.sizes rest (by omega), kind_pure, kind_load, kind_fresh, kind_other, jg, ji, undef]; first | exact rfl | exact ⟨rfl, rfl, rfl, rfl⟩); try (with_reducible refine calmK_in ?_; decide +kernel)))
      refine loud_end (x := i) (by simp only [in_relogL, in_note, true_or, or_true]) hi fun l' hmo hin => ?_
      refine ⟨_, _, _, some (nx + 57), b, rfl, by omega, ⟨by omega, ⟨z, cf, by rw [qE, List.length_append]; rfl, hcf.1, .inr (by simp)⟩, .inr ⟨_, [], rfl, by omega, by rw [List.append_nil]; (repeat (first | rw [qE] | rw [qF _ _ _ _ (by omega)]))⟩, h.fr.keep (by omega) fun k e => ?_, by intro e; cases e; omega, h.neb, fun k e e2 => by cases e; have := h.fr.lt e2; omega⟩, fun x hx hm => ?_, .inr ⟨_, rfl, by omega⟩, .inl rfl, hmo, .inl (hin i (by simp only [in_relogL, in_note, true_or, or_true]) hi)⟩
      · have := h.fr.lt e
        have e1 : k ≠ i := fun e2 => h.neb (by rw [e, e2])
        have e2 : k ≠ j := fun e2 => h.neab j rfl (by rw [e, e2])
        (repeat (first | rw [qE] | rw [qF _ _ _ _ (by omega)]))
      · have e1 : x ≠ i := fun e => hm (.inl e)
        have e2 : x ≠ j := fun e => hm (.inr (.inl (by rw [e])))
        (repeat (first | rw [qE] | rw [qF _ _ _ _ (by omega)]))
  · have d4 : decide (Int.ofNat st.free.length = 0) = false := decide_eq_false (by simp only [Int.ofNat_eq_natCast]; omega)
    repeat (first | with_reducible (first | refine n_on ?_ | refine n_seq ?_ | refine s_else ?_ | refine n_t ?_ | refine n_gt ?_ | refine d_t ?_ | refine n_nil ?_ | refine d_nil ?_ | refine n_block ?_ | refine n_skip ?_ | refine n_bon ?_ | refine n_bback ?_ | refine n_back ?_ | refine n_out ?_ | refine n_bout rfl ?_ | refine n_bfar rfl ?_ | refine n_ret ?_ | refine n_exit ?_ | refine n_label ?_ | refine n_scope ?_ | refine n_son ?_ | refine n_sback ?_) | (with_reducible (first | apply n_region | apply d_region); (simp only [JV, JU, JW, Nat.reduceAdd, Nat.zero_add]; exact rfl)) | (with_reducible (first | apply s_op | apply n_guard | apply n_cond | apply d_guard | apply d_op | apply n_fin | apply n_finb); (simp (maxDischargeDepth := 6) only [sy3.1, zY, qG, qP, qQ, qR, qS, qT, rowAt, ↓jg, ↓ji, Nat.reduceAdd, Nat.reduceEqDiff, ne_eq, jG, Nat.reduceLT, if_true, ite_true, Int.reduceLE, Int.reduceLT, Int.reduceEq, Int.reduceNeg, Int.reduceAdd, Nat.reduceSub, if_false, ite_false, fs_40.1, slA, hr, pnone_ok hO hr, d1, w0, d2, d3, w1, w2, d4, hi, kind_pure, kind_load, kind_fresh, kind_other, jg, ji, undef]; first | exact rfl | exact ⟨rfl, rfl, rfl, rfl⟩); try (with_reducible refine calmK_in ?_; decide +kernel)))
    obtain ⟨m, hm⟩ : ∃ m, st.free.length = m + 1 := ⟨st.free.length - 1, by omega⟩
    obtain ⟨k, hk1, hk2, hk3, hk4⟩ := hG.top (by omega)
    have hfl : st.free.length ≤ st.sizes.length := by omega
    have hT : takeP st size = ({ st with used := st.used + size, count := st.count + 1, sizes := st.sizes.set k size, free := heapPop st.free }, (k : Int) + 1, 0) := by
      unfold takeP; rw [if_neg h1, if_neg h23, if_neg h4, hk1, show ((k : Int) + 1 - 1).toNat = k from by omega]
    rw [hT]
    dsimp only
    obtain ⟨j, rest, rfl, hj, hrow, hc⟩ := h.sz.at hk2
    have hji : j ≠ i := fun e => h.nea (by rw [e])
    have h5 := (h.put (nx' := nx) (Nat.le_refl _) (st.used + size) st.count z hcf).put (nx' := nx + 53) (by omega) (st.used + size) (st.count + 1) z hcf
    refine s_do _ (by
      simp (maxDischargeDepth := 6) only [sy3.1, zY, qG, qP, qQ, qR, qS, qT, rowAt, ↓jg, ↓ji, Nat.reduceAdd, Nat.reduceEqDiff, ne_eq, jG, Nat.reduceLT, if_true, ite_true, Int.reduceLE, Int.reduceLT, Int.reduceEq, Int.reduceNeg, Int.reduceAdd, Nat.reduceSub, if_false, ite_false, fs_40.1]
      exact pleast_ok hO h5 hm (by omega) (by omega)) ?_
    rintro v1 H1 ⟨o1, nx1, lg1, heq, hn1, h6, hfr, hmo1⟩
    cases heq
    obtain ⟨z6, cf6, hr6, hcf6⟩ := h6.row
    obtain ⟨_, rest6, e6, hj6, hrow6, hc6⟩ := h6.sz.at hk2
    cases e6
    have hw5 : IntKind.i64.wrap (st.free.getD 0 0 - 1) = Int.ofNat k := by
      rw [hk1, show (k : Int) + 1 - 1 = (k : Int) from by omega]; exact wrap_small _ (by omega) (by omega)
    have b1 : Nat.blt k st.sizes.length = true := by rw [Nat.blt_eq]; exact hk2
    have t1 := fun y => ints_set st.sizes rest6 k y hk2
    have s1 : (k < (st.sizes.map (Value.int .i64) ++ rest6).length) = True := eq_true (by simp; omega)
    repeat (first | with_reducible (first | refine n_on ?_ | refine n_seq ?_ | refine s_else ?_ | refine n_t ?_ | refine n_gt ?_ | refine d_t ?_ | refine n_nil ?_ | refine d_nil ?_ | refine n_block ?_ | refine n_skip ?_ | refine n_bon ?_ | refine n_bback ?_ | refine n_back ?_ | refine n_out ?_ | refine n_bout rfl ?_ | refine n_bfar rfl ?_ | refine n_ret ?_ | refine n_exit ?_ | refine n_label ?_ | refine n_scope ?_ | refine n_son ?_ | refine n_sback ?_) | (with_reducible (first | apply n_region | apply d_region); (simp only [JV, JU, JW, Nat.reduceAdd, Nat.zero_add]; exact rfl)) | (with_reducible (first | apply s_op | apply n_guard | apply n_cond | apply d_guard | apply d_op | apply n_fin | apply n_finb); (simp (maxDischargeDepth := 6) only [sy3.1, zY, qG, qP, qQ, qR, qS, qT, rowAt, ↓jg, ↓ji, Nat.reduceAdd, Nat.reduceEqDiff, ne_eq, jG, Nat.reduceLT, if_true, ite_true, Int.reduceLE, Int.reduceLT, Int.reduceEq, Int.reduceNeg, Int.reduceAdd, Nat.reduceSub, if_false, ite_false, fs_40.1, slA, hr6, hrow6, hw5, b1, t1, s1, indexAt, Option.isNone_none, Nat.mul_one, kind_pure, kind_load, kind_fresh, kind_other, jg, ji, undef]; first | exact rfl | exact ⟨rfl, rfl, rfl, rfl⟩); try (with_reducible refine calmK_in ?_; decide +kernel)))
    have hjx := h.sz.lt rfl
    refine loud_end (x := i) (by simp only [in_note, hmo1 i (by simp only [in_note, true_or]), or_true]) hi fun l' hmo hin => ?_
    refine ⟨_, _, _, some j, b, by rw [hk1], by omega, ⟨by omega, ⟨z6, cf6, by (repeat (first | rw [qE] | rw [qF _ _ _ _ (by omega)])); rw [hr6]; simp only [List.length_set], hcf6.turn (by simp)⟩, .inr ⟨_, rest6, rfl, by omega, by (repeat (first | rw [qE] | rw [qF _ _ _ _ (by omega)]))⟩, h6.fr.keep (by omega) fun k e => ?_, h.nea, h.neb, h.neab⟩, fun x hx hm => ?_, .inl rfl, .inl rfl, hmo, .inl (hin i (by simp only [in_note, hmo1 i (by simp only [in_note, true_or]), or_true]) hi)⟩
    · have e2 : k ≠ j := fun e2 => h.neab j rfl (by rw [e, e2])
      (repeat (first | rw [qE] | rw [qF _ _ _ _ (by omega)]))
    · have e1 : x ≠ i := fun e => hm (.inl e)
      have e2 : x ≠ j := fun e => hm (.inr (.inl (by rw [e])))
      (repeat (first | rw [qE] | rw [qF _ _ _ _ (by omega)]))
      rw [hfr x (by omega) e1 (fun e => hm (.inr (.inr e)))]
      (repeat (first | rw [qE] | rw [qF _ _ _ _ (by omega)]))
end
end Go.Proofs.Ythnlkahgmbadoaa
