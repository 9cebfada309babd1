/- The document's pool, on the abstract machine: Give. -/
import Derived.Test.YticeabhilkceiaaPlE
namespace Go.Proofs.Yticeabhilkceiaa
open Go.RowKit
set_option linter.unusedSimpArgs false
set_option linter.unusedVariables false
set_option maxRecDepth 100000

theorem iapp_own (x : Int) (q : Nat) (xs : List Int) (hl : xs.length ≤ 1000000) : ∀ (o : Tr AObj) (nx : Nat) (lg : List Nat) (fid p c : Nat), o.get p = some (.row [.int .i64 x] 3 1 true) → o.get q = some (.row (xs.map (Value.int .i64)) 3 1 true) →
    aAppend Try.prog 27 27 (.slice (some ⟨q, 0, none⟩) xs.length 0) (.slice (some ⟨p, 0, none⟩) 1 c) fid ⟨o, nx, lg⟩ = some (.slice (some ⟨fid, 0, none⟩) (xs.length + 1) 0, ⟨(o.put q none).put fid (some (.row ((xs ++ [x]).map (Value.int .i64)) 3 1 true)), nx, noteId q lg⟩) := fun o nx lg fid p c h1 h2 => iapp_some x q xs [] hl o nx lg fid p c h1 (by rw [List.append_nil]; exact h2)
theorem erase_more {l : List Int} {i k : Nat} (hi : i < l.length) (hk : k < l.length) : (l.take (i + 1)).eraseIdx k = if i = k then (l.take i).eraseIdx k else (l.take i).eraseIdx k ++ [l.getD i 0] := by
  have e : l.take (i + 1) = l.take i ++ [l.getD i 0] := by rw [List.take_add_one]; simp [List.getD, hi]
  have hl : (l.take i).length = i := by rw [List.length_take]; omega
  rw [e]
  by_cases h : i = k
  · subst h
    rw [if_pos rfl, List.eraseIdx_append_of_length_le (by omega), hl, Nat.sub_self, show [l.getD i 0].eraseIdx 0 = [] from rfl, List.append_nil, List.eraseIdx_of_length_le (by omega)]
  · rw [if_neg h]
    by_cases h2 : k < i
    · rw [List.eraseIdx_append_of_lt_length (by omega)]
    · rw [List.eraseIdx_append_of_length_le (by omega), hl, List.eraseIdx_of_length_le (by simp; omega), List.eraseIdx_of_length_le (by omega)]
/-- a pool that is put together, its memory alone -/
def QMem (o : Tr AObj) (nx j j2 : Nat) (bd : Int) (m : Nat) (P : Nat) (l1 l2 : List Int) (H : AHeap) : Prop :=
  ∃ o9 N9 lg9 a1 b1, H = ⟨o9, N9, lg9⟩ ∧ nx + 2 ≤ P ∧ P < N9 ∧ lg9.all (fun i => Nat.ble nx i) = true ∧ (∀ x, x < nx → o9.get x = o.get x) ∧ o9.get nx = some (.row (rpX bd j j2 m) 29 0 true) ∧ o9.get (nx + 1) = some (.row [.int .i64 0, .slice none 0 0, .slice none 0 0] 29 0 true) ∧
    o9.get P = some (.row [.int .i64 bd, .slice (slA a1) l1.length 0, .slice (slA b1) l2.length 0] 29 0 true) ∧ OwnL o9 (nx + 2) a1 l1 ∧ OwnL o9 (nx + 2) b1 l2 ∧ (∀ q, a1 = some q → q < N9 ∧ q ≠ P ∧ b1 ≠ some q) ∧ ∀ q, b1 = some q → q < N9 ∧ q ≠ P
def GEnv (nx P k i : Nat) (e : Tr Value) : Prop := e.get 2 = some (.pointer (some ⟨nx, 0, none⟩)) ∧ e.get 4 = some (.pointer (some ⟨nx + 1, 0, none⟩)) ∧ e.get 6 = some (.int .i64 (.ofNat k)) ∧ e.get 7 = some (.pointer (some ⟨P, 0, none⟩)) ∧ e.get 8 = some (.int .i64 (.ofNat i))
section
variable {O : Helps} {n : Nat} {o : Tr AObj} {nx : Nat} {lg : List Nat} {a b : Option Nat} {bd : Int} {ids sizes : List Int}
set_option maxHeartbeats 64000000 in
theorem rgive_ok (hO : Clear O) (ha : RIn o nx a ids) (hb : RIn o nx b sizes) (hls : ids.length = sizes.length) (hl : ids.length ≤ 1000) (hn : ids.length < n) (id : Int) :
    Got (oCall Try.prog [] O (n + 2) 10 [rpV bd a b ids sizes, .int .i64 id] ⟨o, nx, lg⟩) (RpTo o nx lg a b bd (giveL ids sizes id).1.1 (giveL ids sizes id).1.2 (mk2 (giveL ids sizes id).2)) := by
  have hpl := fun (X Y : AObj) (q : Nat) (lg : List Nat) => rplace_ok (n := n) (b := b) (bd := bd) (sizes := sizes) (lg := lg) hO (ha.ints.keep (o' := (o.put nx (some X)).put (nx + 1) (some Y)) (nx' := nx + (q + 2)) (by omega) fun j e => by have := ha.lt e; (repeat (first | rw [qE] | rw [qF _ _ _ _ (by omega)]))) (by omega) hn id
  unfold giveL
  rw [y_fn (rs := [.cell 4 29, .tmp 5]) (hO _ (by decide)) Try.func10 rfl (by kernel_rfl) rfl rfl]
  cases hp : placeN ids id 0 with
  | none =>
    rw [hp] at hpl
    have d1 : decide ((-1 : Int) < 0) = true := by decide
    repeat (first | with_reducible (first | refine n_on ?_ | refine n_seq ?_ | refine s_else ?_ | refine n_t ?_ | refine n_gt ?_ | refine d_t ?_ | refine n_nil ?_ | refine d_nil ?_ | refine n_block ?_ | refine n_skip ?_ | refine n_bon ?_ | refine n_bback ?_ | refine n_back ?_ | refine n_out ?_ | refine n_bout rfl ?_ | refine n_bfar rfl ?_ | refine n_ret ?_ | refine n_exit ?_ | refine n_label ?_ | refine n_scope ?_ | refine n_son ?_ | refine n_sback ?_) | (with_reducible (first | apply n_region | apply d_region); (simp only [JV, JU, JW, Nat.reduceAdd, Nat.zero_add]; exact rfl)) | (with_reducible (first | apply s_op | apply n_guard | apply n_cond | apply d_guard | apply d_op | apply n_fin | apply n_finb); (simp (maxDischargeDepth := 6) only [sy3.1, zY, qG, qP, qQ, qR, qS, qT, rowAt, ↓jg, ↓ji, Nat.reduceAdd, Nat.reduceEqDiff, ne_eq, jG, Nat.reduceLT, if_true, ite_true, Int.reduceLE, Int.reduceLT, Int.reduceEq, Int.reduceNeg, Int.reduceAdd, Nat.reduceSub, if_false, ite_false, fs_10.1, rpV, hpl, ixN, d1, kind_pure, kind_load, kind_fresh, kind_other, jg, ji, undef]; first | exact rfl | exact ⟨rfl, rfl, rfl, rfl⟩); try (with_reducible refine calmK_in ?_; decide +kernel)))
    exact rp_same2 ha hb _ (by simp only [all_relogL, js, ju, List.all_nil, jt, Bool.and_self])
  | some k =>
    rw [hp] at hpl
    have hk := (place_lt hp).2
    rw [Nat.zero_add] at hk
    have d1 : decide (Int.ofNat k < 0) = false := decide_eq_false (by simp only [Int.ofNat_eq_natCast]; omega)
    rcases ha with ⟨_, e⟩ | ⟨j, rfl, hj, hne, hra⟩
    · rw [e] at hk; simp at hk
    rcases hb with ⟨_, e⟩ | ⟨j2, rfl, hj2, hne2, hrb⟩
    · rw [e] at hls; simp only [List.length_nil] at hls; omega
    simp only [rpV, slA, Option.map_some] at hpl
    repeat (first | with_reducible (first | refine n_on ?_ | refine n_seq ?_ | refine s_else ?_ | refine n_t ?_ | refine n_gt ?_ | refine d_t ?_ | refine n_nil ?_ | refine d_nil ?_ | refine n_block ?_ | refine n_skip ?_ | refine n_bon ?_ | refine n_bback ?_ | refine n_back ?_ | refine n_out ?_ | refine n_bout rfl ?_ | refine n_bfar rfl ?_ | refine n_ret ?_ | refine n_exit ?_ | refine n_label ?_ | refine n_scope ?_ | refine n_son ?_ | refine n_sback ?_) | (with_reducible (first | apply n_region | apply d_region); (simp only [JV, JU, JW, Nat.reduceAdd, Nat.zero_add]; exact rfl)) | (with_reducible (first | apply s_op | apply n_guard | apply n_cond | apply d_guard | apply d_op | apply n_fin | apply n_finb); (simp (maxDischargeDepth := 6) only [sy3.1, zY, qG, qP, qQ, qR, qS, qT, rowAt, ↓jg, ↓ji, Nat.reduceAdd, Nat.reduceEqDiff, ne_eq, jG, Nat.reduceLT, if_true, ite_true, Int.reduceLE, Int.reduceLT, Int.reduceEq, Int.reduceNeg, Int.reduceAdd, Nat.reduceSub, if_false, ite_false, fs_10.1, rpV, slA, hpl, ixN, d1, kind_pure, kind_load, kind_fresh, kind_other, jg, ji, undef]; first | exact rfl | exact ⟨rfl, rfl, rfl, rfl⟩); try (with_reducible refine calmK_in ?_; decide +kernel)))
    refine loop_cut (i := 0) (I := fun e' H => ∃ P, QMem o nx j j2 bd ids.length P (ids.eraseIdx k) (sizes.eraseIdx k) H ∧ GEnv nx P k ids.length e') ?_ ?_
    · rw [y_loop_eq]
      refine y_loop (I := fun q e' H => ∃ i P, i + q = ids.length ∧ QMem o nx j j2 bd ids.length P ((ids.take i).eraseIdx k) ((sizes.take i).eraseIdx k) H ∧ GEnv nx P k i e') ?_ ids.length _ _ _ ⟨0, nx + 12, by omega, ⟨_, _, _, none, none, rfl, by omega, by omega, ?_, fun x hx => by (repeat (first | rw [qE] | rw [qF _ _ _ _ (by omega)])), by rw [hls]; (repeat (first | rw [qE] | rw [qF _ _ _ _ (by omega)])), by (repeat (first | rw [qE] | rw [qF _ _ _ _ (by omega)])), by (repeat (first | rw [qE] | rw [qF _ _ _ _ (by omega)])); rfl, .inl ⟨rfl, rfl⟩, .inl ⟨rfl, rfl⟩, fun q e => (by cases e), fun q e => (by cases e)⟩, ?_, ?_, ?_, ?_, ?_⟩ (by omega)
      rotate_left
      · simp only [all_relogL, js, ju, List.all_nil, jt, Bool.and_self]
      · simp only [qC, qD, qE, qF, Tr.get_nil, ne_eq, not_false_eq_true, Nat.reduceEqDiff]
      · simp only [qC, qD, qE, qF, Tr.get_nil, ne_eq, not_false_eq_true, Nat.reduceEqDiff]
      · simp only [qC, qD, qE, qF, Tr.get_nil, ne_eq, not_false_eq_true, Nat.reduceEqDiff]
      · simp only [qC, qD, qE, qF, Tr.get_nil, ne_eq, not_false_eq_true, Nat.reduceEqDiff]
      · simp only [qC, qD, qE, qF, Tr.get_nil, ne_eq, not_false_eq_true, Nat.reduceEqDiff]; rfl
      rintro q e' H ⟨i, P, hiq, hM, g2, g4, g6, g7, g8⟩
      have hM0 := hM
      obtain ⟨o9, N9, lg9, a1, b1, rfl, p1, p2, p3, p4, p5, p6, p7, p8, p9, p10, p11⟩ := hM
      have hnxlt : nx < N9 := by omega
      cases q with
      | zero =>
        have hi : i = ids.length := by omega
        subst hi
        have hlt : decide (ids.length < ids.length) = false := decide_eq_false (by omega)
        repeat (first | with_reducible (first | refine n_on ?_ | refine n_seq ?_ | refine s_else ?_ | refine n_t ?_ | refine n_gt ?_ | refine d_t ?_ | refine n_nil ?_ | refine d_nil ?_ | refine n_block ?_ | refine n_skip ?_ | refine n_bon ?_ | refine n_bback ?_ | refine n_back ?_ | refine n_out ?_ | refine n_bout rfl ?_ | refine n_bfar rfl ?_ | refine n_ret ?_ | refine n_exit ?_ | refine n_label ?_ | refine n_scope ?_ | refine n_son ?_ | refine n_sback ?_) | (with_reducible (first | apply n_region | apply d_region); (simp only [JV, JU, JW, Nat.reduceAdd, Nat.zero_add]; exact rfl)) | (with_reducible (first | apply s_op | apply n_guard | apply n_cond | apply d_guard | apply d_op | apply n_fin | apply n_finb); (simp (maxDischargeDepth := 6) only [sy3.1, zY, qG, qP, qQ, qR, qS, qT, rowAt, ↓jg, ↓ji, Nat.reduceAdd, Nat.reduceEqDiff, ne_eq, jG, Nat.reduceLT, if_true, ite_true, Int.reduceLE, Int.reduceLT, Int.reduceEq, Int.reduceNeg, Int.reduceAdd, Nat.reduceSub, if_false, ite_false, fs_10.1, rpX, g2, g4, g6, g7, g8, p5, hnxlt, hlt, kind_pure, kind_load, kind_fresh, kind_other, jg, ji, undef]; first | exact rfl | exact ⟨rfl, rfl, rfl, rfl⟩); try (with_reducible refine calmK_in ?_; decide +kernel)))
        rw [List.take_length, show sizes.take ids.length = sizes from by rw [hls, List.take_length]] at hM0
        refine ⟨_, _, rfl, P, ?_, ?_, ?_, ?_, ?_, ?_⟩
        · rw [List.take_length, show sizes.take ids.length = sizes from by rw [hls, List.take_length]] at *
          exact ⟨o9, _, lg9, a1, b1, rfl, p1, by omega, p3, p4, p5, p6, p7, p8, p9, fun q e => by have := p10 q e; exact ⟨by omega, this.2⟩, fun q e => by have := p11 q e; exact ⟨by omega, this.2⟩⟩
        all_goals simp only [qC, qD, qE, qF, Tr.get_nil, ne_eq, not_false_eq_true, Nat.reduceEqDiff, g2, g4, g6, g7, g8]
      | succ q =>
        have hi : i < ids.length := by omega
        have hlt : decide (i < ids.length) = true := decide_eq_true hi
        have hw1 : IntKind.i64.wrap (Int.ofNat i + 1) = Int.ofNat (i + 1) := by rw [wrap_small _ (by simp only [Int.ofNat_eq_natCast]; omega) (by simp only [Int.ofNat_eq_natCast]; omega)]; rfl
        have hii2 : i < sizes.length := by omega
        have e1 := erase_more hi hk
        have e2 := erase_more hii2 (show k < sizes.length by omega)
        by_cases hik : i = k
        · rw [if_pos hik] at e1 e2
          repeat (first | with_reducible (first | refine n_on ?_ | refine n_seq ?_ | refine s_else ?_ | refine n_t ?_ | refine n_gt ?_ | refine d_t ?_ | refine n_nil ?_ | refine d_nil ?_ | refine n_block ?_ | refine n_skip ?_ | refine n_bon ?_ | refine n_bback ?_ | refine n_back ?_ | refine n_out ?_ | refine n_bout rfl ?_ | refine n_bfar rfl ?_ | refine n_ret ?_ | refine n_exit ?_ | refine n_label ?_ | refine n_scope ?_ | refine n_son ?_ | refine n_sback ?_) | (with_reducible (first | apply n_region | apply d_region); (simp only [JV, JU, JW, Nat.reduceAdd, Nat.zero_add]; exact rfl)) | (with_reducible (first | apply s_op | apply n_guard | apply n_cond | apply d_guard | apply d_op | apply n_fin | apply n_finb); (simp (maxDischargeDepth := 6) only [sy3.1, zY, qG, qP, qQ, qR, qS, qT, rowAt, ↓jg, ↓ji, Nat.reduceAdd, Nat.reduceEqDiff, ne_eq, jG, Nat.reduceLT, if_true, ite_true, Int.reduceLE, Int.reduceLT, Int.reduceEq, Int.reduceNeg, Int.reduceAdd, Nat.reduceSub, if_false, ite_false, fs_10.1, rpX, g2, g4, g6, g7, g8, p5, hnxlt, hlt, hw1, decide_eq_true hik, kind_pure, kind_load, kind_fresh, kind_other, jg, ji, undef]; first | exact rfl | exact ⟨rfl, rfl, rfl, rfl⟩); try (with_reducible refine calmK_in ?_; decide +kernel)))
          refine ⟨q, by omega, i + 1, P, by omega, ?_, ?_, ?_, ?_, ?_, ?_⟩
          · rw [e1, e2]
            exact ⟨o9, _, lg9, a1, b1, rfl, p1, by omega, p3, p4, p5, p6, p7, p8, p9, fun q e => by have := p10 q e; exact ⟨by omega, this.2⟩, fun q e => by have := p11 q e; exact ⟨by omega, this.2⟩⟩
          all_goals simp only [qC, qD, qE, qF, Tr.get_nil, ne_eq, not_false_eq_true, Nat.reduceEqDiff, g2, g4, g6, g7, g8]
        · rw [if_neg hik] at e1 e2
          have hP : P < N9 := p2
          have hPN : P ≠ nx := by omega
          have hNP := hPN.symm
          have hra' : o9.get j = some (.row (ids.map (Value.int .i64)) 3 1 true) := (p4 j hj).trans hra
          have hrb' : o9.get j2 = some (.row (sizes.map (Value.int .i64)) 3 1 true) := (p4 j2 hj2).trans hrb
          have hj' : j < N9 := by omega
          have hj2' : j2 < N9 := by omega
          have hjP : j ≠ P := by omega
          have hjP' := hjP.symm
          have hj2P : j2 ≠ P := by omega
          have hj2P' := hj2P.symm
          have hc1 : (ids.map (Value.int .i64))[i]? = some (.int .i64 (ids.getD i 0)) := by
            have := ints_at ids [] i hi
            rw [List.append_nil] at this; exact this
          have hc2 : (sizes.map (Value.int .i64))[i]? = some (.int .i64 (sizes.getD i 0)) := by
            have := ints_at sizes [] i hii2
            rw [List.append_nil] at this; exact this
          have l1 : Nat.blt i ids.length = true := by rw [Nat.blt_eq]; exact hi
          have l2 : Nat.blt i sizes.length = true := by rw [Nat.blt_eq]; exact hii2
          have n1 : decide (ids.length ≤ i) = false := decide_eq_false (by omega)
          have n2 : decide (sizes.length ≤ i) = false := decide_eq_false (by omega)
          have hll : ((ids.take i).eraseIdx k).length = ((sizes.take i).eraseIdx k).length := by simp only [List.length_eraseIdx, List.length_take, hls]
          have hl1k : ((ids.take i).eraseIdx k).length ≤ 1000000 := by
            have := List.length_eraseIdx_le (ids.take i) k
            rw [List.length_take] at this; omega
          generalize (ids.take i).eraseIdx k = L1 at *
          generalize (sizes.take i).eraseIdx k = L2 at *
          rcases p8 with ⟨rfl, rfl⟩ | ⟨q1, rfl, hqa, hL1, hrowa⟩
          · have hL2 : L2 = [] := List.eq_nil_of_length_eq_zero hll.symm
            subst hL2
            obtain rfl := p9.nil
            repeat (first | with_reducible (first | refine n_on ?_ | refine n_seq ?_ | refine s_else ?_ | refine n_t ?_ | refine n_gt ?_ | refine d_t ?_ | refine n_nil ?_ | refine d_nil ?_ | refine n_block ?_ | refine n_skip ?_ | refine n_bon ?_ | refine n_bback ?_ | refine n_back ?_ | refine n_out ?_ | refine n_bout rfl ?_ | refine n_bfar rfl ?_ | refine n_ret ?_ | refine n_exit ?_ | refine n_label ?_ | refine n_scope ?_ | refine n_son ?_ | refine n_sback ?_) | (with_reducible (first | apply n_region | apply d_region); (simp only [JV, JU, JW, Nat.reduceAdd, Nat.zero_add]; exact rfl)) | (with_reducible (first | apply s_op | apply n_guard | apply n_cond | apply d_guard | apply d_op | apply n_fin | apply n_finb); (simp (maxDischargeDepth := 6) only [sy3.1, zY, qG, qP, qQ, qR, qS, qT, rowAt, ↓jg, ↓ji, Nat.reduceAdd, Nat.reduceEqDiff, ne_eq, jG, Nat.reduceLT, if_true, ite_true, Int.reduceLE, Int.reduceLT, Int.reduceEq, Int.reduceNeg, Int.reduceAdd, Nat.reduceSub, if_false, ite_false, fs_10.1, rpX, slA, g2, g4, g6, g7, g8, p5, p7, hP, hPN, hNP, hnxlt, hlt, hw1, hra', hrb', hj', hj2', hjP, hjP', hj2P, hj2P', hc1, hc2, l1, l2, n1, n2, st_buildSliceV, build_int, indexAt, Option.isNone_none, Nat.mul_one, decide_eq_false hik, iapp_none (ids.getD i 0), iapp_none (sizes.getD i 0), kind_pure, kind_load, kind_fresh, kind_other, jg, ji, undef]; first | exact rfl | exact ⟨rfl, rfl, rfl, rfl⟩); try (with_reducible refine calmK_in ?_; decide +kernel)))
            have hbP : Nat.ble nx P = true := by rw [Nat.ble_eq]; omega
            refine ⟨q, by omega, i + 1, P, by omega, ?_, ?_, ?_, ?_, ?_, ?_⟩
            · rw [e1, e2]
              refine ⟨_, _, _, some (N9 + 16), some (N9 + 27), rfl, p1, by omega, by simp only [all_relogL, js, p3, hbP, List.all_nil, Bool.and_self], fun x hx => ?_, ?_, ?_, ?_, .inr ⟨_, rfl, by omega, by simp, ?_⟩, .inr ⟨_, rfl, by omega, by simp, ?_⟩, fun q e => ?_, fun q e => ?_⟩
              · (repeat (first | rw [qE] | rw [qF _ _ _ _ (by omega)])); exact p4 x hx
              · (repeat (first | rw [qE] | rw [qF _ _ _ _ (by omega)])); exact p5
              · (repeat (first | rw [qE] | rw [qF _ _ _ _ (by omega)])); exact p6
              · (repeat (first | rw [qE] | rw [qF _ _ _ _ (by omega)])) <;> rfl
              · (repeat (first | rw [qE] | rw [qF _ _ _ _ (by omega)])) <;> rfl
              · (repeat (first | rw [qE] | rw [qF _ _ _ _ (by omega)])) <;> rfl
              · cases e; exact ⟨by omega, by omega, fun e => by have := Option.some.inj e; omega⟩
              · cases e; exact ⟨by omega, by omega⟩
            all_goals simp only [qC, qD, qE, qF, Tr.get_nil, ne_eq, not_false_eq_true, Nat.reduceEqDiff, g2, g4, g6, g7, g8]
          · rcases p9 with ⟨_, e⟩ | ⟨q2, rfl, hqb, hL2, hrowb⟩
            · rw [e] at hll; exact absurd (List.eq_nil_of_length_eq_zero hll) hL1
            have hqaN := (p10 q1 rfl).1
            have hqbN := (p11 q2 rfl).1
            have hqaP := (p10 q1 rfl).2.1
            have hqbP := (p11 q2 rfl).2
            have hqaP' := hqaP.symm
            have hqbP' := hqbP.symm
            have hqab : q1 ≠ q2 := fun e => (p10 q1 rfl).2.2 (by rw [e])
            have hqab' := hqab.symm
            have x1 : nx ≠ q1 := by omega
            have x2 : nx ≠ q2 := by omega
            have x3 : j ≠ q1 := by omega
            have x4 : j ≠ q2 := by omega
            have x5 : j2 ≠ q1 := by omega
            have x6 : j2 ≠ q2 := by omega
            have hl2k : L2.length ≤ 1000000 := by omega
            repeat (first | with_reducible (first | refine n_on ?_ | refine n_seq ?_ | refine s_else ?_ | refine n_t ?_ | refine n_gt ?_ | refine d_t ?_ | refine n_nil ?_ | refine d_nil ?_ | refine n_block ?_ | refine n_skip ?_ | refine n_bon ?_ | refine n_bback ?_ | refine n_back ?_ | refine n_out ?_ | refine n_bout rfl ?_ | refine n_bfar rfl ?_ | refine n_ret ?_ | refine n_exit ?_ | refine n_label ?_ | refine n_scope ?_ | refine n_son ?_ | refine n_sback ?_) | (with_reducible (first | apply n_region | apply d_region); (simp only [JV, JU, JW, Nat.reduceAdd, Nat.zero_add]; exact rfl)) | (with_reducible (first | apply s_op | apply n_guard | apply n_cond | apply d_guard | apply d_op | apply n_fin | apply n_finb); (simp (maxDischargeDepth := 6) only [sy3.1, zY, qG, qP, qQ, qR, qS, qT, rowAt, ↓jg, ↓ji, Nat.reduceAdd, Nat.reduceEqDiff, ne_eq, jG, Nat.reduceLT, if_true, ite_true, Int.reduceLE, Int.reduceLT, Int.reduceEq, Int.reduceNeg, Int.reduceAdd, Nat.reduceSub, if_false, ite_false, fs_10.1, rpX, slA, g2, g4, g6, g7, g8, p5, p7, hP, hPN, hNP, hnxlt, hlt, hw1, hra', hrb', hj', hj2', hjP, hjP', hj2P, hj2P', hc1, hc2, l1, l2, n1, n2, st_buildSliceV, build_int, indexAt, Option.isNone_none, Nat.mul_one, decide_eq_false hik, iapp_own (ids.getD i 0) q1 L1 hl1k, iapp_own (sizes.getD i 0) q2 L2 hl2k, hrowa, hrowb, hqaN, hqbN, hqaP, hqaP', hqbP, hqbP', hqab, hqab', x1, x2, x3, x4, x5, x6, kind_pure, kind_load, kind_fresh, kind_other, jg, ji, undef]; first | exact rfl | exact ⟨rfl, rfl, rfl, rfl⟩); try (with_reducible refine calmK_in ?_; decide +kernel)))
            have hbP : Nat.ble nx P = true := by rw [Nat.ble_eq]; omega
            have hba : Nat.ble nx q1 = true := by rw [Nat.ble_eq]; omega
            have hbb : Nat.ble nx q2 = true := by rw [Nat.ble_eq]; omega
            refine ⟨q, by omega, i + 1, P, by omega, ?_, ?_, ?_, ?_, ?_, ?_⟩
            · rw [e1, e2]
              refine ⟨_, _, _, some (N9 + 16), some (N9 + 27), rfl, p1, by omega, by simp only [all_relogL, js, p3, hbP, hba, hbb, List.all_nil, Bool.and_self], fun x hx => ?_, ?_, ?_, ?_, .inr ⟨_, rfl, by omega, by simp, ?_⟩, .inr ⟨_, rfl, by omega, by simp, ?_⟩, fun q e => ?_, fun q e => ?_⟩
              · (repeat (first | rw [qE] | rw [qF _ _ _ _ (by omega)])); exact p4 x hx
              · (repeat (first | rw [qE] | rw [qF _ _ _ _ (by omega)])); exact p5
              · (repeat (first | rw [qE] | rw [qF _ _ _ _ (by omega)])); exact p6
              · (repeat (first | rw [qE] | rw [qF _ _ _ _ (by omega)]))
                simp only [List.length_append, List.length_cons, List.length_nil] <;> rfl
              · (repeat (first | rw [qE] | rw [qF _ _ _ _ (by omega)]))
              · (repeat (first | rw [qE] | rw [qF _ _ _ _ (by omega)]))
              · cases e; exact ⟨by omega, by omega, fun e => by have := Option.some.inj e; omega⟩
              · cases e; exact ⟨by omega, by omega⟩
            all_goals simp only [qC, qD, qE, qF, Tr.get_nil, ne_eq, not_false_eq_true, Nat.reduceEqDiff, g2, g4, g6, g7, g8]
    · rintro e1 H1 ⟨P, ⟨o9, N9, lg9, a1, b1, rfl, p1, p2, p3, p4, p5, p6, p7, p8, p9, p10, p11⟩, g2, g4, g6, g7, g8⟩
      refine n_bout rfl ?_
      refine n_on ?_
      have hbP2 : Nat.ble nx (nx + 1) = true := by rw [Nat.ble_eq]; omega
      have hP : P < N9 := p2
      have hN1 : nx + 1 < N9 := by omega
      have hP1 : P ≠ nx + 1 := by omega
      have hP2 := hP1.symm
      repeat (first | with_reducible (first | refine n_on ?_ | refine n_seq ?_ | refine s_else ?_ | refine n_t ?_ | refine n_gt ?_ | refine d_t ?_ | refine n_nil ?_ | refine d_nil ?_ | refine n_block ?_ | refine n_skip ?_ | refine n_bon ?_ | refine n_bback ?_ | refine n_back ?_ | refine n_out ?_ | refine n_bout rfl ?_ | refine n_bfar rfl ?_ | refine n_ret ?_ | refine n_exit ?_ | refine n_label ?_ | refine n_scope ?_ | refine n_son ?_ | refine n_sback ?_) | (with_reducible (first | apply n_region | apply d_region); (simp only [JV, JU, JW, Nat.reduceAdd, Nat.zero_add]; exact rfl)) | (with_reducible (first | apply s_op | apply n_guard | apply n_cond | apply d_guard | apply d_op | apply n_fin | apply n_finb); (simp (maxDischargeDepth := 6) only [sy3.1, zY, qG, qP, qQ, qR, qS, qT, rowAt, ↓jg, ↓ji, Nat.reduceAdd, Nat.reduceEqDiff, ne_eq, jG, Nat.reduceLT, if_true, ite_true, Int.reduceLE, Int.reduceLT, Int.reduceEq, Int.reduceNeg, Int.reduceAdd, Nat.reduceSub, if_false, ite_false, fs_10.1, g2, g4, g6, g7, g8, p6, p7, hP, hN1, hP1, hP2, kind_pure, kind_load, kind_fresh, kind_other, jg, ji, undef]; first | exact rfl | exact ⟨rfl, rfl, rfl, rfl⟩); try (with_reducible refine calmK_in ?_; decide +kernel)))
      exact rp_new (a := a1) (b := b1) (ids := ids.eraseIdx k) (sizes := sizes.eraseIdx k) (mk := mk2 0) (low_mk2 _) (by simp only [all_relogL, js, p3, hbP2, List.all_nil, Bool.and_self]) (by omega) ((p8.low (by omega)).keep fun q e => by have := p8.mine e; (repeat (first | rw [qE] | rw [qF _ _ _ _ (by omega)]))) ((p9.low (by omega)).keep fun q e => by have := p9.mine e; (repeat (first | rw [qE] | rw [qF _ _ _ _ (by omega)]))) (fun q e => by have := p10 q e; omega) (fun q e => by have := p11 q e; omega) (fun x hx => by (repeat (first | rw [qE] | rw [qF _ _ _ _ (by omega)])); exact p4 x hx)
end
end Go.Proofs.Yticeabhilkceiaa
