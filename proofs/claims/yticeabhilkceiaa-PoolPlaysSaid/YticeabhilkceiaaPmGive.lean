/- Pool: Give, Resize, New, on the abstract machine. -/
import Derived.Test.YticeabhilkceiaaPmNew
import Derived.Test.YticeabhilkceiaaPmHas
import Derived.Test.YticeabhilkceiaaPmUp
namespace Go.Proofs.Yticeabhilkceiaa
open Go.RowKit
set_option linter.unusedSimpArgs false
set_option linter.unusedVariables false
set_option maxRecDepth 100000

section
variable {O : Helps} {n : Nat} {o : Tr AObj} {nx : Nat} {lg : List Nat} {i : Nat} {a b : Option Nat} {st : PS}
set_option maxHeartbeats 16000000 in
theorem pgive_ok (hO : Clear O) (h : PoolIn o nx i a b st) (hG : Good st) (id : Int) (hn : st.sizes.length < n) :
    Got (oCall Try.prog [] O (n + 3) 9 [.pointer (some ⟨i, 0, none⟩), .int .i64 id] ⟨o, nx, lg⟩) (PoolTo o nx lg i a b st (giveP st id).1 (.int .i64 (giveP st id).2)) := by
  obtain ⟨z, cf, hr, hcf⟩ := h.row
  have hi := h.lt
  have hu0 := hG.used0
  have hle := hG.le
  have hb1 := hG.b1
  have hsz := hG.len
  have hcnt := hG.cnt
  have hh := fun q => phas_ok (n := n + 1) (nx := nx + q) (lg := []) hO (h.keep (Nat.le_add_right _ _) fun _ _ => rfl) hsz id
  rw [y_fn (rs := [.tmp 4]) (hO _ (by decide)) Try.func9 rfl (by kernel_rfl) rfl rfl]
  unfold giveP
  cases hP : hasP st id with
  | false =>
    rw [hP] at hh
    repeat (first | with_reducible (first | refine n_on ?_ | refine n_seq ?_ | refine s_else ?_ | refine n_t ?_ | refine n_gt ?_ | refine d_t ?_ | refine n_nil ?_ | refine d_nil ?_ | refine n_block ?_ | refine n_skip ?_ | refine n_bon ?_ | refine n_bback ?_ | refine n_back ?_ | refine n_out ?_ | refine n_bout rfl ?_ | refine n_bfar rfl ?_ | refine n_ret ?_ | refine n_exit ?_ | refine n_label ?_ | refine n_scope ?_ | refine n_son ?_ | refine n_sback ?_) | (with_reducible (first | apply n_region | apply d_region); (simp only [JV, JU, JW, Nat.reduceAdd, Nat.zero_add]; exact rfl)) | (with_reducible (first | apply s_op | apply n_guard | apply n_cond | apply d_guard | apply d_op | apply n_fin | apply n_finb); (simp (maxDischargeDepth := 6) only [sy3.1, zY, qG, qP, qQ, qR, qS, qT, rowAt, ↓jg, ↓ji, Nat.reduceAdd, Nat.reduceEqDiff, ne_eq, jG, Nat.reduceLT, if_true, ite_true, Int.reduceLE, Int.reduceLT, Int.reduceEq, Int.reduceNeg, Int.reduceAdd, Nat.reduceSub, if_false, ite_false, fs_9.1, slA, hr, pnone_ok hO hr, hh, kind_pure, kind_load, kind_fresh, kind_other, jg, ji, undef]; first | exact rfl | exact ⟨rfl, rfl, rfl, rfl⟩); try (with_reducible refine calmK_in ?_; decide +kernel)))
    simp only [Bool.false_eq_true, if_false]
    exact quiet_end (by rfl) (by rfl) (.same h _)
  | true =>
    rw [hP] at hh
    simp only [if_true]
    obtain ⟨k, hid, hk, h0, hw⟩ := hasP_in hsz hP
    have hku := usedOf_le hG hk h0
    obtain ⟨j, rest, rfl, hj, hrow, hc⟩ := h.sz.at hk
    have hji : j ≠ i := fun e => h.nea (by rw [e])
    have hij := Ne.symm hji
    have ek : (id - 1).toNat = k := by omega
    rw [ek]
    have b1 : Nat.blt k st.sizes.length = true := by rw [Nat.blt_eq]; exact hk
    have t1 := fun y => ints_set st.sizes rest k y hk
    have s1 : (k < (st.sizes.map (Value.int .i64) ++ rest).length) = True := eq_true (by simp; omega)
    have w1 : IntKind.i64.wrap (st.used - st.sizes.getD k 0) = st.used - st.sizes.getD k 0 := wrap_small _ (by omega) (by omega)
    have hc1 : 1 ≤ st.count := by
      have := hG.count
      have hm : (idsFrom st.sizes 0).length + (freeFrom st.sizes 0).length = st.sizes.length := ids_free_len _ _
      rcases Nat.eq_zero_or_pos (idsFrom st.sizes 0).length with e | e
      · exfalso
        have hp := hG.free.length_eq
        have : ∀ (l : List Int) (i k : Nat), k < l.length → 0 ≤ l.getD k 0 → 0 < (idsFrom l i).length := by
          intro l
          induction l with
          | nil => intro i k h; simp at h
          | cons s l ih =>
            intro i k h h0
            simp only [idsFrom]
            split
            · simp
            · cases k with
              | zero => rename_i hs; exact absurd (by simpa [List.getD] using h0) hs
              | succ k => exact ih (i + 1) k (by simpa using h) (by simpa [List.getD] using h0)
        have := this st.sizes 0 k hk h0
        omega
      · omega
    have w2 : IntKind.i64.wrap (st.count - 1) = st.count - 1 := wrap_small _ (by omega) (by omega)
    have hfl : st.free.length ≤ st.sizes.length := by omega
    have hpool : ∀ (o4 : Tr AObj) (nx4 : Nat) (b4 : Option Nat) (fr : List Int), nx ≤ nx4 → b4 ≠ some i → b4 ≠ some j → IntsIn o4 nx4 b4 fr → o4.get i = some (.row [.bool true, .int .i64 st.bound, .int .i64 (st.used - st.sizes.getD k 0), .int .i64 (st.count - 1), .slice (slA (some j)) st.sizes.length 0, .slice (slA b4) fr.length 0] 50 z true) →
        o4.get j = some (.row ((st.sizes.set k (-1)).map (Value.int .i64) ++ rest) 3 1 true) → PoolIn o4 nx4 i (some j) b4 ⟨st.bound, st.used - st.sizes.getD k 0, st.count - 1, st.sizes.set k (-1), fr⟩ :=
      fun o4 nx4 b4 fr hn4 hb4 hb5 hI hi4 hj4 => ⟨by omega, ⟨z, 0, by rw [hi4]; simp only [List.length_set], .inl rfl, .inr fun e => (by have := congrArg List.length e; rw [List.length_set] at this; simp only [List.length_nil] at this; omega)⟩, .inr ⟨j, rest, rfl, by omega, hj4⟩, hI, h.nea, hb4, fun q e => by cases e; exact hb5⟩
    have hfin : ∀ (o4 o5 : Tr AObj) (nx4 nx5 : Nat) (lg4 lg5 : List Nat) (b4 : Option Nat), nx ≤ nx4 → nx4 ≤ nx5 → i ∈ lg4 → (∀ y, y ∈ lg4 → y ∈ lg5) → PoolIn o5 nx5 i (some j) b4 ⟨st.bound, st.used - st.sizes.getD k 0, st.count - 1, st.sizes.set k (-1), siftUp (st.free ++ [id]) st.free.length st.free.length⟩ →
        (∀ x, x < nx4 → b4 ≠ some x → o5.get x = o4.get x) → (∀ x, x < nx → ¬ PMine i (some j) b x → o4.get x = o.get x) → (∃ q, b4 = some q ∧ nx ≤ q) →
        PoolTo o nx lg i (some j) b st ⟨st.bound, st.used - st.sizes.getD k 0, st.count - 1, st.sizes.set k (-1), heapPush st.free id⟩ (.int .i64 0) (leave ⟨o, nx, lg⟩ (.int .i64 0) ⟨o5, nx5, lg5⟩) := by
      rintro o4 o5 nx4 nx5 lg4 lg5 b4 h1 h2 h3 h4 h5 h6 h7 ⟨q, rfl, hq⟩
      refine loud_end (h4 _ h3) hi fun l' hmo hin => ?_
      refine ⟨_, _, _, some j, some q, rfl, by omega, h5, fun x hx hm => ?_, .inl rfl, .inr ⟨q, rfl, hq⟩, hmo, .inl (hin i (h4 _ h3) hi)⟩
      rw [h6 x (by omega) (by intro e; cases e; omega)]; exact h7 x hx hm
    rcases h.fr with ⟨rfl, e⟩ | ⟨jfr, restb, rfl, hjb, hrowb⟩
    · obtain rfl := hcf.nil
      rw [e] at hr hfin ⊢
      repeat (first | with_reducible (first | refine n_on ?_ | refine n_seq ?_ | refine s_else ?_ | refine n_t ?_ | refine n_gt ?_ | refine d_t ?_ | refine n_nil ?_ | refine d_nil ?_ | refine n_block ?_ | refine n_skip ?_ | refine n_bon ?_ | refine n_bback ?_ | refine n_back ?_ | refine n_out ?_ | refine n_bout rfl ?_ | refine n_bfar rfl ?_ | refine n_ret ?_ | refine n_exit ?_ | refine n_label ?_ | refine n_scope ?_ | refine n_son ?_ | refine n_sback ?_) | (with_reducible (first | apply n_region | apply d_region); (simp only [JV, JU, JW, Nat.reduceAdd, Nat.zero_add]; exact rfl)) | (with_reducible (first | apply s_op | apply n_guard | apply n_cond | apply d_guard | apply d_op | apply n_fin | apply n_finb); (simp (maxDischargeDepth := 6) only [sy3.1, zY, qG, qP, qQ, qR, qS, qT, rowAt, ↓jg, ↓ji, Nat.reduceAdd, Nat.reduceEqDiff, ne_eq, jG, Nat.reduceLT, if_true, ite_true, Int.reduceLE, Int.reduceLT, Int.reduceEq, Int.reduceNeg, Int.reduceAdd, Nat.reduceSub, if_false, ite_false, fs_9.1, slA, hr, pnone_ok hO hr, hh, hrow, hc, hw, b1, t1, s1, w1, w2, hi, hj, hij, hji, indexAt, Option.isNone_none, Nat.mul_one, st_buildSliceV, build_int, iapp_none id, kind_pure, kind_load, kind_fresh, kind_other, jg, ji, undef]; first | exact rfl | exact ⟨rfl, rfl, rfl, rfl⟩); try (with_reducible refine calmK_in ?_; decide +kernel)))
      refine s_do _ (by
        simp (maxDischargeDepth := 6) only [sy3.1, zY, qG, qP, qQ, qR, qS, qT, rowAt, ↓jg, ↓ji, Nat.reduceAdd, Nat.reduceEqDiff, ne_eq, jG, Nat.reduceLT, if_true, ite_true, Int.reduceLE, Int.reduceLT, Int.reduceEq, Int.reduceNeg, Int.reduceAdd, Nat.reduceSub, if_false, ite_false, fs_9.1]
        exact pup_ok (m := 0) (st := ⟨st.bound, st.used - st.sizes.getD k 0, st.count - 1, st.sizes.set k (-1), [id]⟩) hO (hpool _ _ (some (nx + 48)) [id] (by omega) (by intro e; cases e; omega) (by intro e; cases e; omega) (.inr ⟨_, [], rfl, by omega, by (repeat (first | rw [qE] | rw [qF _ _ _ _ (by omega)])); rfl⟩) (by (repeat (first | rw [qE] | rw [qF _ _ _ _ (by omega)])); rfl) (by (repeat (first | rw [qE] | rw [qF _ _ _ _ (by omega)])))) rfl (by omega) (by omega)) ?_
      rintro v1 H1 ⟨o1, nx1, lg1, heq, hn1, h6, hfr, hmo1⟩
      cases heq
      repeat (first | with_reducible (first | refine n_on ?_ | refine n_seq ?_ | refine s_else ?_ | refine n_t ?_ | refine n_gt ?_ | refine d_t ?_ | refine n_nil ?_ | refine d_nil ?_ | refine n_block ?_ | refine n_skip ?_ | refine n_bon ?_ | refine n_bback ?_ | refine n_back ?_ | refine n_out ?_ | refine n_bout rfl ?_ | refine n_bfar rfl ?_ | refine n_ret ?_ | refine n_exit ?_ | refine n_label ?_ | refine n_scope ?_ | refine n_son ?_ | refine n_sback ?_) | (with_reducible (first | apply n_region | apply d_region); (simp only [JV, JU, JW, Nat.reduceAdd, Nat.zero_add]; exact rfl)) | (with_reducible (first | apply s_op | apply n_guard | apply n_cond | apply d_guard | apply d_op | apply n_fin | apply n_finb); (simp (maxDischargeDepth := 6) only [sy3.1, zY, qG, qP, qQ, qR, qS, qT, rowAt, ↓jg, ↓ji, Nat.reduceAdd, Nat.reduceEqDiff, ne_eq, jG, Nat.reduceLT, if_true, ite_true, Int.reduceLE, Int.reduceLT, Int.reduceEq, Int.reduceNeg, Int.reduceAdd, Nat.reduceSub, if_false, ite_false, fs_9.1, hr, kind_pure, kind_load, kind_fresh, kind_other, jg, ji, undef]; first | exact rfl | exact ⟨rfl, rfl, rfl, rfl⟩); try (with_reducible refine calmK_in ?_; decide +kernel)))
      refine hfin _ _ _ _ _ _ (some (nx + 48)) (by omega) (Nat.le_trans hn1 (by omega)) ?_ hmo1 (h6.keep (by omega) fun _ _ => rfl) hfr (fun x hx hm => ?_) ⟨_, rfl, by omega⟩
      · simp only [in_relogL, in_note, true_or, or_true]
      · have e1 : x ≠ i := fun e => hm (.inl e)
        have e2 : x ≠ j := fun e => hm (.inr (.inl (by rw [e])))
        (repeat (first | rw [qE] | rw [qF _ _ _ _ (by omega)]))
    · have hjbi : jfr ≠ i := fun e => h.neb (by rw [e])
      have hijb := Ne.symm hjbi
      have hjbj : jfr ≠ j := fun e => h.neab j rfl (by rw [e])
      have hjjb := Ne.symm hjbj
      rcases hcf.1 with rfl | ⟨rfl, hfe, _⟩
      · repeat (first | with_reducible (first | refine n_on ?_ | refine n_seq ?_ | refine s_else ?_ | refine n_t ?_ | refine n_gt ?_ | refine d_t ?_ | refine n_nil ?_ | refine d_nil ?_ | refine n_block ?_ | refine n_skip ?_ | refine n_bon ?_ | refine n_bback ?_ | refine n_back ?_ | refine n_out ?_ | refine n_bout rfl ?_ | refine n_bfar rfl ?_ | refine n_ret ?_ | refine n_exit ?_ | refine n_label ?_ | refine n_scope ?_ | refine n_son ?_ | refine n_sback ?_) | (with_reducible (first | apply n_region | apply d_region); (simp only [JV, JU, JW, Nat.reduceAdd, Nat.zero_add]; exact rfl)) | (with_reducible (first | apply s_op | apply n_guard | apply n_cond | apply d_guard | apply d_op | apply n_fin | apply n_finb); (simp (maxDischargeDepth := 6) only [sy3.1, zY, qG, qP, qQ, qR, qS, qT, rowAt, ↓jg, ↓ji, Nat.reduceAdd, Nat.reduceEqDiff, ne_eq, jG, Nat.reduceLT, if_true, ite_true, Int.reduceLE, Int.reduceLT, Int.reduceEq, Int.reduceNeg, Int.reduceAdd, Nat.reduceSub, if_false, ite_false, fs_9.1, slA, hr, pnone_ok hO hr, hh, hrow, hrowb, hc, hw, b1, t1, s1, w1, w2, hi, hj, hjb, hij, hji, hijb, hjbi, hjbj, hjjb, indexAt, Option.isNone_none, Nat.mul_one, st_buildSliceV, build_int, iapp_some id jfr st.free restb (by omega), kind_pure, kind_load, kind_fresh, kind_other, jg, ji, undef]; first | exact rfl | exact ⟨rfl, rfl, rfl, rfl⟩); try (with_reducible refine calmK_in ?_; decide +kernel)))
        refine s_do _ (by
          simp (maxDischargeDepth := 6) only [sy3.1, zY, qG, qP, qQ, qR, qS, qT, rowAt, ↓jg, ↓ji, Nat.reduceAdd, Nat.reduceEqDiff, ne_eq, jG, Nat.reduceLT, if_true, ite_true, Int.reduceLE, Int.reduceLT, Int.reduceEq, Int.reduceNeg, Int.reduceAdd, Nat.reduceSub, if_false, ite_false, fs_9.1]
          exact pup_ok (m := st.free.length) (st := ⟨st.bound, st.used - st.sizes.getD k 0, st.count - 1, st.sizes.set k (-1), st.free ++ [id]⟩) hO (hpool _ _ (some (nx + 48)) (st.free ++ [id]) (by omega) (by intro e; cases e; omega) (by intro e; cases e; omega) (.inr ⟨_, [], rfl, by omega, by rw [List.append_nil]; (repeat (first | rw [qE] | rw [qF _ _ _ _ (by omega)]))⟩) (by rw [List.length_append]; (repeat (first | rw [qE] | rw [qF _ _ _ _ (by omega)])); rfl) (by (repeat (first | rw [qE] | rw [qF _ _ _ _ (by omega)])))) (by simp) (by omega) (by omega)) ?_
        rintro v1 H1 ⟨o1, nx1, lg1, heq, hn1, h6, hfr, hmo1⟩
        cases heq
        repeat (first | with_reducible (first | refine n_on ?_ | refine n_seq ?_ | refine s_else ?_ | refine n_t ?_ | refine n_gt ?_ | refine d_t ?_ | refine n_nil ?_ | refine d_nil ?_ | refine n_block ?_ | refine n_skip ?_ | refine n_bon ?_ | refine n_bback ?_ | refine n_back ?_ | refine n_out ?_ | refine n_bout rfl ?_ | refine n_bfar rfl ?_ | refine n_ret ?_ | refine n_exit ?_ | refine n_label ?_ | refine n_scope ?_ | refine n_son ?_ | refine n_sback ?_) | (with_reducible (first | apply n_region | apply d_region); (simp only [JV, JU, JW, Nat.reduceAdd, Nat.zero_add]; exact rfl)) | (with_reducible (first | apply s_op | apply n_guard | apply n_cond | apply d_guard | apply d_op | apply n_fin | apply n_finb); (simp (maxDischargeDepth := 6) only [sy3.1, zY, qG, qP, qQ, qR, qS, qT, rowAt, ↓jg, ↓ji, Nat.reduceAdd, Nat.reduceEqDiff, ne_eq, jG, Nat.reduceLT, if_true, ite_true, Int.reduceLE, Int.reduceLT, Int.reduceEq, Int.reduceNeg, Int.reduceAdd, Nat.reduceSub, if_false, ite_false, fs_9.1, hr, kind_pure, kind_load, kind_fresh, kind_other, jg, ji, undef]; first | exact rfl | exact ⟨rfl, rfl, rfl, rfl⟩); try (with_reducible refine calmK_in ?_; decide +kernel)))
        refine hfin _ _ _ _ _ _ (some (nx + 48)) (by omega) (Nat.le_trans hn1 (by omega)) ?_ hmo1 (h6.keep (by omega) fun _ _ => rfl) hfr (fun x hx hm => ?_) ⟨_, rfl, by omega⟩
        · simp only [in_relogL, in_note, true_or, or_true]
        · have e1 : x ≠ i := fun e => hm (.inl e)
          have e2 : x ≠ j := fun e => hm (.inr (.inl (by rw [e])))
          have e3 : x ≠ jfr := fun e => hm (.inr (.inr (by rw [e])))
          (repeat (first | rw [qE] | rw [qF _ _ _ _ (by omega)]))
      · rw [hfe] at hr hfin hrowb ⊢
        have hcap : ∀ (o : Tr AObj) (nx : Nat) (lg : List Nat) (fid q c : Nat), o.get q = some (.row [.int .i64 id] 3 1 true) → o.get jfr = some (.row restb 3 1 true) → _ := fun o nx lg fid q c h1 h2 => iapp_cap0 id jfr o nx lg fid q c restb _ 1 true h1 h2
        repeat (first | with_reducible (first | refine n_on ?_ | refine n_seq ?_ | refine s_else ?_ | refine n_t ?_ | refine n_gt ?_ | refine d_t ?_ | refine n_nil ?_ | refine d_nil ?_ | refine n_block ?_ | refine n_skip ?_ | refine n_bon ?_ | refine n_bback ?_ | refine n_back ?_ | refine n_out ?_ | refine n_bout rfl ?_ | refine n_bfar rfl ?_ | refine n_ret ?_ | refine n_exit ?_ | refine n_label ?_ | refine n_scope ?_ | refine n_son ?_ | refine n_sback ?_) | (with_reducible (first | apply n_region | apply d_region); (simp only [JV, JU, JW, Nat.reduceAdd, Nat.zero_add]; exact rfl)) | (with_reducible (first | apply s_op | apply n_guard | apply n_cond | apply d_guard | apply d_op | apply n_fin | apply n_finb); (simp (maxDischargeDepth := 6) only [sy3.1, zY, qG, qP, qQ, qR, qS, qT, rowAt, ↓jg, ↓ji, Nat.reduceAdd, Nat.reduceEqDiff, ne_eq, jG, Nat.reduceLT, if_true, ite_true, Int.reduceLE, Int.reduceLT, Int.reduceEq, Int.reduceNeg, Int.reduceAdd, Nat.reduceSub, if_false, ite_false, fs_9.1, slA, hr, pnone_ok hO hr, hh, hrow, hrowb, hc, hw, b1, t1, s1, w1, w2, hi, hj, hjb, hij, hji, hijb, hjbi, hjbj, hjjb, indexAt, Option.isNone_none, Nat.mul_one, st_buildSliceV, build_int, hcap, kind_pure, kind_load, kind_fresh, kind_other, jg, ji, undef]; first | exact rfl | exact ⟨rfl, rfl, rfl, rfl⟩); try (with_reducible refine calmK_in ?_; decide +kernel)))
        refine s_do _ (by
          simp (maxDischargeDepth := 6) only [sy3.1, zY, qG, qP, qQ, qR, qS, qT, rowAt, ↓jg, ↓ji, Nat.reduceAdd, Nat.reduceEqDiff, ne_eq, jG, Nat.reduceLT, if_true, ite_true, Int.reduceLE, Int.reduceLT, Int.reduceEq, Int.reduceNeg, Int.reduceAdd, Nat.reduceSub, if_false, ite_false, fs_9.1]
          exact pup_ok (m := 0) (st := ⟨st.bound, st.used - st.sizes.getD k 0, st.count - 1, st.sizes.set k (-1), [id]⟩) hO (hpool _ _ (some (nx + 48)) ([id]) (by omega) (by intro e; cases e; omega) (by intro e; cases e; omega) (.inr ⟨_, [], rfl, by omega, by (repeat (first | rw [qE] | rw [qF _ _ _ _ (by omega)])); rfl⟩) (by (repeat (first | rw [qE] | rw [qF _ _ _ _ (by omega)])); rfl) (by (repeat (first | rw [qE] | rw [qF _ _ _ _ (by omega)])))) rfl (by omega) (by omega)) ?_
        rintro v1 H1 ⟨o1, nx1, lg1, heq, hn1, h6, hfr, hmo1⟩
        cases heq
        repeat (first | with_reducible (first | refine n_on ?_ | refine n_seq ?_ | refine s_else ?_ | refine n_t ?_ | refine n_gt ?_ | refine d_t ?_ | refine n_nil ?_ | refine d_nil ?_ | refine n_block ?_ | refine n_skip ?_ | refine n_bon ?_ | refine n_bback ?_ | refine n_back ?_ | refine n_out ?_ | refine n_bout rfl ?_ | refine n_bfar rfl ?_ | refine n_ret ?_ | refine n_exit ?_ | refine n_label ?_ | refine n_scope ?_ | refine n_son ?_ | refine n_sback ?_) | (with_reducible (first | apply n_region | apply d_region); (simp only [JV, JU, JW, Nat.reduceAdd, Nat.zero_add]; exact rfl)) | (with_reducible (first | apply s_op | apply n_guard | apply n_cond | apply d_guard | apply d_op | apply n_fin | apply n_finb); (simp (maxDischargeDepth := 6) only [sy3.1, zY, qG, qP, qQ, qR, qS, qT, rowAt, ↓jg, ↓ji, Nat.reduceAdd, Nat.reduceEqDiff, ne_eq, jG, Nat.reduceLT, if_true, ite_true, Int.reduceLE, Int.reduceLT, Int.reduceEq, Int.reduceNeg, Int.reduceAdd, Nat.reduceSub, if_false, ite_false, fs_9.1, hr, kind_pure, kind_load, kind_fresh, kind_other, jg, ji, undef]; first | exact rfl | exact ⟨rfl, rfl, rfl, rfl⟩); try (with_reducible refine calmK_in ?_; decide +kernel)))
        refine hfin _ _ _ _ _ _ (some (nx + 48)) (by omega) (Nat.le_trans hn1 (by omega)) ?_ hmo1 (h6.keep (by omega) fun _ _ => rfl) hfr (fun x hx hm => ?_) ⟨_, rfl, by omega⟩
        · simp only [in_relogL, in_note, true_or, or_true]
        · have e1 : x ≠ i := fun e => hm (.inl e)
          have e2 : x ≠ j := fun e => hm (.inr (.inl (by rw [e])))
          have e3 : x ≠ jfr := fun e => hm (.inr (.inr (by rw [e])))
          (repeat (first | rw [qE] | rw [qF _ _ _ _ (by omega)]))
set_option maxHeartbeats 16000000 in
theorem presize_ok (hO : Clear O) (h : PoolIn o nx i a b st) (hG : Good st) (id size : Int) (hn : st.sizes.length < n) :
    Got (oCall Try.prog [] O (n + 3) 11 [.pointer (some ⟨i, 0, none⟩), .int .i64 id, .int .i64 size] ⟨o, nx, lg⟩) (PoolTo o nx lg i a b st (resizeP st id size).1 (.int .i64 (resizeP st id size).2)) := by
  obtain ⟨z, cf, hr, hcf⟩ := h.row
  have hi := h.lt
  have hu0 := hG.used0
  have hle := hG.le
  have hb1 := hG.b1
  have hsz := hG.len
  have hh := fun q => phas_ok (n := n + 1) (nx := nx + q) (lg := []) hO (h.keep (Nat.le_add_right _ _) fun _ _ => rfl) hsz id
  rw [y_fn (rs := [.tmp 6]) (hO _ (by decide)) Try.func11 rfl (by kernel_rfl) rfl rfl]
  cases hP : hasP st id with
  | false =>
    have hR : resizeP st id size = (st, 2) := by unfold resizeP; rw [if_pos (.inl hP)]
    rw [hP] at hh
    rw [hR]
    repeat (first | with_reducible (first | refine n_on ?_ | refine n_seq ?_ | refine s_else ?_ | refine n_t ?_ | refine n_gt ?_ | refine d_t ?_ | refine n_nil ?_ | refine d_nil ?_ | refine n_block ?_ | refine n_skip ?_ | refine n_bon ?_ | refine n_bback ?_ | refine n_back ?_ | refine n_out ?_ | refine n_bout rfl ?_ | refine n_bfar rfl ?_ | refine n_ret ?_ | refine n_exit ?_ | refine n_label ?_ | refine n_scope ?_ | refine n_son ?_ | refine n_sback ?_) | (with_reducible (first | apply n_region | apply d_region); (simp only [JV, JU, JW, Nat.reduceAdd, Nat.zero_add]; exact rfl)) | (with_reducible (first | apply s_op | apply n_guard | apply n_cond | apply d_guard | apply d_op | apply n_fin | apply n_finb); (simp (maxDischargeDepth := 6) only [sy3.1, zY, qG, qP, qQ, qR, qS, qT, rowAt, ↓jg, ↓ji, Nat.reduceAdd, Nat.reduceEqDiff, ne_eq, jG, Nat.reduceLT, if_true, ite_true, Int.reduceLE, Int.reduceLT, Int.reduceEq, Int.reduceNeg, Int.reduceAdd, Nat.reduceSub, if_false, ite_false, fs_11.1, slA, hr, pnone_ok hO hr, hh, kind_pure, kind_load, kind_fresh, kind_other, jg, ji, undef]; first | exact rfl | exact ⟨rfl, rfl, rfl, rfl⟩); try (with_reducible refine calmK_in ?_; decide +kernel)))
    exact quiet_end (by rfl) (by rfl) (.same h _)
  | true =>
    rw [hP] at hh
    by_cases h1 : size < 0
    · have hR : resizeP st id size = (st, 2) := by unfold resizeP; rw [if_pos (.inr h1)]
      rw [hR]
      repeat (first | with_reducible (first | refine n_on ?_ | refine n_seq ?_ | refine s_else ?_ | refine n_t ?_ | refine n_gt ?_ | refine d_t ?_ | refine n_nil ?_ | refine d_nil ?_ | refine n_block ?_ | refine n_skip ?_ | refine n_bon ?_ | refine n_bback ?_ | refine n_back ?_ | refine n_out ?_ | refine n_bout rfl ?_ | refine n_bfar rfl ?_ | refine n_ret ?_ | refine n_exit ?_ | refine n_label ?_ | refine n_scope ?_ | refine n_son ?_ | refine n_sback ?_) | (with_reducible (first | apply n_region | apply d_region); (simp only [JV, JU, JW, Nat.reduceAdd, Nat.zero_add]; exact rfl)) | (with_reducible (first | apply s_op | apply n_guard | apply n_cond | apply d_guard | apply d_op | apply n_fin | apply n_finb); (simp (maxDischargeDepth := 6) only [sy3.1, zY, qG, qP, qQ, qR, qS, qT, rowAt, ↓jg, ↓ji, Nat.reduceAdd, Nat.reduceEqDiff, ne_eq, jG, Nat.reduceLT, if_true, ite_true, Int.reduceLE, Int.reduceLT, Int.reduceEq, Int.reduceNeg, Int.reduceAdd, Nat.reduceSub, if_false, ite_false, fs_11.1, slA, hr, pnone_ok hO hr, hh, decide_eq_true h1, kind_pure, kind_load, kind_fresh, kind_other, jg, ji, undef]; first | exact rfl | exact ⟨rfl, rfl, rfl, rfl⟩); try (with_reducible refine calmK_in ?_; decide +kernel)))
      exact quiet_end (by rfl) (by rfl) (.same h _)
    have d1 := decide_eq_false h1
    obtain ⟨k, hid, hk, h0, hw⟩ := hasP_in hsz hP
    have hku := usedOf_le hG hk h0
    obtain ⟨j, rest, rfl, hj, hrow, hc⟩ := h.sz.at hk
    have hji : j ≠ i := fun e => h.nea (by rw [e])
    have hij := Ne.symm hji
    have ek : (id - 1).toNat = k := by omega
    have b1 : Nat.blt k st.sizes.length = true := by rw [Nat.blt_eq]; exact hk
    have w0 : IntKind.i64.wrap (st.bound - st.used) = st.bound - st.used := wrap_small _ (by omega) (by omega)
    have w1 : IntKind.i64.wrap (st.bound - st.used + st.sizes.getD k 0) = st.bound - st.used + st.sizes.getD k 0 := wrap_small _ (by omega) (by omega)
    have hn1 : ¬ (hasP st id = false ∨ size < 0) := fun h => h.elim (fun h => by rw [hP] at h; cases h) h1
    by_cases h2 : st.bound - st.used + st.sizes.getD k 0 < size
    · have hR : resizeP st id size = (st, 5) := by unfold resizeP; rw [if_neg hn1, ek, if_pos h2]
      rw [hR]
      repeat (first | with_reducible (first | refine n_on ?_ | refine n_seq ?_ | refine s_else ?_ | refine n_t ?_ | refine n_gt ?_ | refine d_t ?_ | refine n_nil ?_ | refine d_nil ?_ | refine n_block ?_ | refine n_skip ?_ | refine n_bon ?_ | refine n_bback ?_ | refine n_back ?_ | refine n_out ?_ | refine n_bout rfl ?_ | refine n_bfar rfl ?_ | refine n_ret ?_ | refine n_exit ?_ | refine n_label ?_ | refine n_scope ?_ | refine n_son ?_ | refine n_sback ?_) | (with_reducible (first | apply n_region | apply d_region); (simp only [JV, JU, JW, Nat.reduceAdd, Nat.zero_add]; exact rfl)) | (with_reducible (first | apply s_op | apply n_guard | apply n_cond | apply d_guard | apply d_op | apply n_fin | apply n_finb); (simp (maxDischargeDepth := 6) only [sy3.1, zY, qG, qP, qQ, qR, qS, qT, rowAt, ↓jg, ↓ji, Nat.reduceAdd, Nat.reduceEqDiff, ne_eq, jG, Nat.reduceLT, if_true, ite_true, Int.reduceLE, Int.reduceLT, Int.reduceEq, Int.reduceNeg, Int.reduceAdd, Nat.reduceSub, if_false, ite_false, fs_11.1, slA, hr, pnone_ok hO hr, hh, hrow, hc, hw, b1, w0, w1, d1, decide_eq_true h2, indexAt, Option.isNone_none, Nat.mul_one, kind_pure, kind_load, kind_fresh, kind_other, jg, ji, undef]; first | exact rfl | exact ⟨rfl, rfl, rfl, rfl⟩); try (with_reducible refine calmK_in ?_; decide +kernel)))
      exact quiet_end (by rfl) (by rfl) (.same h _)
    have d2 := decide_eq_false h2
    have t1 := fun y => ints_set st.sizes rest k y hk
    have s1 : (k < (st.sizes.map (Value.int .i64) ++ rest).length) = True := eq_true (by simp; omega)
    have w2 : IntKind.i64.wrap (size - st.sizes.getD k 0) = size - st.sizes.getD k 0 := by
      exact wrap_any (by omega) (by omega)
    have w3 : IntKind.i64.wrap (st.used + (size - st.sizes.getD k 0)) = st.used + (size - st.sizes.getD k 0) := wrap_small _ (by omega) (by omega)
    have hR : resizeP st id size = ({ st with used := st.used + (size - st.sizes.getD k 0), sizes := st.sizes.set k size }, 0) := by unfold resizeP; rw [if_neg hn1, ek, if_neg h2]
    rw [hR]
    repeat (first | with_reducible (first | refine n_on ?_ | refine n_seq ?_ | refine s_else ?_ | refine n_t ?_ | refine n_gt ?_ | refine d_t ?_ | refine n_nil ?_ | refine d_nil ?_ | refine n_block ?_ | refine n_skip ?_ | refine n_bon ?_ | refine n_bback ?_ | refine n_back ?_ | refine n_out ?_ | refine n_bout rfl ?_ | refine n_bfar rfl ?_ | refine n_ret ?_ | refine n_exit ?_ | refine n_label ?_ | refine n_scope ?_ | refine n_son ?_ | refine n_sback ?_) | (with_reducible (first | apply n_region | apply d_region); (simp only [JV, JU, JW, Nat.reduceAdd, Nat.zero_add]; exact rfl)) | (with_reducible (first | apply s_op | apply n_guard | apply n_cond | apply d_guard | apply d_op | apply n_fin | apply n_finb); (simp (maxDischargeDepth := 6) only [sy3.1, zY, qG, qP, qQ, qR, qS, qT, rowAt, ↓jg, ↓ji, Nat.reduceAdd, Nat.reduceEqDiff, ne_eq, jG, Nat.reduceLT, if_true, ite_true, Int.reduceLE, Int.reduceLT, Int.reduceEq, Int.reduceNeg, Int.reduceAdd, Nat.reduceSub, if_false, ite_false, fs_11.1, slA, hr, pnone_ok hO hr, hh, hrow, hc, hw, b1, w0, w1, w2, w3, d1, d2, t1, s1, hi, hj, hij, hji, indexAt, Option.isNone_none, Nat.mul_one, kind_pure, kind_load, kind_fresh, kind_other, jg, ji, undef]; first | exact rfl | exact ⟨rfl, rfl, rfl, rfl⟩); try (with_reducible refine calmK_in ?_; decide +kernel)))
    refine loud_end (x := i) (by simp only [in_relogL, in_note, true_or, or_true]) hi fun l' hmo hin => ?_
    refine ⟨_, _, _, some j, b, rfl, by omega, ⟨by omega, ⟨z, cf, by (repeat (first | rw [qE] | rw [qF _ _ _ _ (by omega)])); simp only [List.length_set]; rfl, hcf.turn (by simp)⟩, .inr ⟨_, rest, rfl, by omega, by (repeat (first | rw [qE] | rw [qF _ _ _ _ (by omega)]))⟩, h.fr.keep (by omega) fun k e => ?_, h.nea, h.neb, h.neab⟩, fun x hx hm => ?_, .inl rfl, .inl rfl, hmo, .inl (hin i (by simp only [in_relogL, in_note, true_or, or_true]) hi)⟩
    · have e1 : k ≠ i := fun e2 => h.neb (by rw [e, e2])
      have e2 : k ≠ j := fun e2 => h.neab j rfl (by rw [e, e2])
      (repeat (first | rw [qE] | rw [qF _ _ _ _ (by omega)]))
    · have e1 : x ≠ i := fun e => hm (.inl e)
      have e2 : x ≠ j := fun e => hm (.inr (.inl (by rw [e])))
      (repeat (first | rw [qE] | rw [qF _ _ _ _ (by omega)]))
end
end Go.Proofs.Yticeabhilkceiaa
