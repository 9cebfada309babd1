/- Pool: has, on the abstract machine. -/
import Derived.Test.YtdfadipfhcikdaaGreatDoorPmNew
namespace Go.Proofs.YtdfadipfhcikdaaGreatDoor
open Go.RowKit
set_option linter.unusedSimpArgs false
set_option linter.unusedVariables false
set_option maxRecDepth 100000

section
variable {O : Helps} {n : Nat} {o : Tr AObj} {nx : Nat} {lg : List Nat} {i : Nat} {a b : Option Nat} {st : PS}
set_option maxHeartbeats 4000000 in
theorem phas_ok (hO : Clear O) (h : PoolIn o nx i a b st) (hl : st.sizes.length ≤ 65536) (id : Int) :
    oCall Tryz.prog [] O (n + 1) 65 [.pointer (some ⟨i, 0, none⟩), .int .i64 id] ⟨o, nx, lg⟩ = some (.bool (hasP st id), ⟨o, nx, lg⟩) := by
  refine of_got ?_
  obtain ⟨z, cf, hr, hcf⟩ := h.row
  rw [y_fn (rs := [.tmp 4]) (hO _ (by decide)) Tryz.func65 rfl (by kernel_rfl) rfl rfl]
  by_cases h1 : 1 ≤ id
  · by_cases h2 : id ≤ Int.ofNat st.sizes.length
    · obtain ⟨k, hid⟩ : ∃ k : Nat, id = (k : Int) + 1 := ⟨(id - 1).toNat, by omega⟩
      have hk : k < st.sizes.length := by simp only [Int.ofNat_eq_natCast] at h2; omega
      obtain ⟨j, rest, rfl, hj, hrow, hc⟩ := h.sz.at hk
      have hw : IntKind.i64.wrap (id - 1) = Int.ofNat k := by
        rw [show id - 1 = (k : Int) from by omega]
        exact wrap_small _ (by omega) (by omega)
      have hb : Nat.blt k st.sizes.length = true := by rw [Nat.blt_eq]; exact hk
      have hP : hasP st id = decide (0 ≤ st.sizes.getD k 0) := by
        unfold hasP
        rw [decide_eq_true h1, decide_eq_true (p := id ≤ (st.sizes.length : Int)) h2, show (id - 1).toNat = k from by omega]; rfl
      repeat (first | with_reducible (first | refine n_on ?_ | refine n_seq ?_ | refine s_else ?_ | refine n_t ?_ | refine n_gt ?_ | refine d_t ?_ | refine n_nil ?_ | refine d_nil ?_ | refine n_block ?_ | refine n_skip ?_ | refine n_bon ?_ | refine n_bback ?_ | refine n_back ?_ | refine n_out ?_ | refine n_bout rfl ?_ | refine n_bfar rfl ?_ | refine n_ret ?_ | refine n_exit ?_ | refine n_label ?_ | refine n_scope ?_ | refine n_son ?_ | refine n_sback ?_) | (with_reducible (first | apply n_region | apply d_region); (simp only [JV, JU, JW, Nat.reduceAdd, Nat.zero_add]; exact rfl)) | (with_reducible (first | apply s_op | apply n_guard | apply n_cond | apply d_guard | apply d_op | apply n_fin | apply n_finb); (simp (maxDischargeDepth := 6) only [sy3.1, zY, qG, qP, qQ, qR, qS, qT, rowAt, ↓jg, ↓ji, Nat.reduceAdd, Nat.reduceEqDiff, ne_eq, jG, Nat.reduceLT, if_true, ite_true, Int.reduceLE, Int.reduceLT, Int.reduceEq, Int.reduceNeg, Int.reduceAdd, Nat.reduceSub, if_false, ite_false, fs_65.1, slA, hr, hrow, hc, hw, hb, indexAt, Option.isNone_none, Nat.mul_one, decide_eq_true h1, decide_eq_true h2, kind_pure, kind_load, kind_fresh, kind_other, jg, ji, undef]; first | exact rfl | exact ⟨rfl, rfl, rfl, rfl⟩); try (with_reducible refine calmK_in ?_; decide +kernel)))
      try rw [hP]
      try exact Ja (by rfl) (by rfl)
    · have hP : hasP st id = false := by
        unfold hasP
        rw [decide_eq_false (p := id ≤ (st.sizes.length : Int)) h2, Bool.and_false]; rfl
      repeat (first | with_reducible (first | refine n_on ?_ | refine n_seq ?_ | refine s_else ?_ | refine n_t ?_ | refine n_gt ?_ | refine d_t ?_ | refine n_nil ?_ | refine d_nil ?_ | refine n_block ?_ | refine n_skip ?_ | refine n_bon ?_ | refine n_bback ?_ | refine n_back ?_ | refine n_out ?_ | refine n_bout rfl ?_ | refine n_bfar rfl ?_ | refine n_ret ?_ | refine n_exit ?_ | refine n_label ?_ | refine n_scope ?_ | refine n_son ?_ | refine n_sback ?_) | (with_reducible (first | apply n_region | apply d_region); (simp only [JV, JU, JW, Nat.reduceAdd, Nat.zero_add]; exact rfl)) | (with_reducible (first | apply s_op | apply n_guard | apply n_cond | apply d_guard | apply d_op | apply n_fin | apply n_finb); (simp (maxDischargeDepth := 6) only [sy3.1, zY, qG, qP, qQ, qR, qS, qT, rowAt, ↓jg, ↓ji, Nat.reduceAdd, Nat.reduceEqDiff, ne_eq, jG, Nat.reduceLT, if_true, ite_true, Int.reduceLE, Int.reduceLT, Int.reduceEq, Int.reduceNeg, Int.reduceAdd, Nat.reduceSub, if_false, ite_false, fs_65.1, slA, hr, decide_eq_true h1, decide_eq_false h2, kind_pure, kind_load, kind_fresh, kind_other, jg, ji, undef]; first | exact rfl | exact ⟨rfl, rfl, rfl, rfl⟩); try (with_reducible refine calmK_in ?_; decide +kernel)))
      try rw [hP]
      try exact Ja (by rfl) (by rfl)
  · have hP : hasP st id = false := by
      unfold hasP
      rw [decide_eq_false h1]; rfl
    repeat (first | with_reducible (first | refine n_on ?_ | refine n_seq ?_ | refine s_else ?_ | refine n_t ?_ | refine n_gt ?_ | refine d_t ?_ | refine n_nil ?_ | refine d_nil ?_ | refine n_block ?_ | refine n_skip ?_ | refine n_bon ?_ | refine n_bback ?_ | refine n_back ?_ | refine n_out ?_ | refine n_bout rfl ?_ | refine n_bfar rfl ?_ | refine n_ret ?_ | refine n_exit ?_ | refine n_label ?_ | refine n_scope ?_ | refine n_son ?_ | refine n_sback ?_) | (with_reducible (first | apply n_region | apply d_region); (simp only [JV, JU, JW, Nat.reduceAdd, Nat.zero_add]; exact rfl)) | (with_reducible (first | apply s_op | apply n_guard | apply n_cond | apply d_guard | apply d_op | apply n_fin | apply n_finb); (simp (maxDischargeDepth := 6) only [sy3.1, zY, qG, qP, qQ, qR, qS, qT, rowAt, ↓jg, ↓ji, Nat.reduceAdd, Nat.reduceEqDiff, ne_eq, jG, Nat.reduceLT, if_true, ite_true, Int.reduceLE, Int.reduceLT, Int.reduceEq, Int.reduceNeg, Int.reduceAdd, Nat.reduceSub, if_false, ite_false, fs_65.1, slA, hr, decide_eq_false h1, kind_pure, kind_load, kind_fresh, kind_other, jg, ji, undef]; first | exact rfl | exact ⟨rfl, rfl, rfl, rfl⟩); try (with_reducible refine calmK_in ?_; decide +kernel)))
    try rw [hP]
    try exact Ja (by rfl) (by rfl)
end
end Go.Proofs.YtdfadipfhcikdaaGreatDoor

namespace Go.Proofs.YtdfadipfhcikdaaGreatDoor
open Go.RowKit
set_option linter.unusedSimpArgs false
set_option linter.unusedVariables false
set_option maxRecDepth 100000

section
variable {O : Helps} {n : Nat} {o : Tr AObj} {nx : Nat} {lg : List Nat} {i : Nat} {a b : Option Nat} {st : PS}
def ResizeTo (o : Tr AObj) (nx : Nat) (lg : List Nat) (i : Nat) (a b : Option Nat) (st : PS) (x : PS × Int) (r : Value × AHeap) : Prop := PoolTo o nx lg i a b st x.1 (.int .i64 x.2) r ∧ (x.2 = 0 → i ∈ r.2.log)
set_option maxHeartbeats 16000000 in
theorem presize_log (hO : Clear O) (h : PoolIn o nx i a b st) (hG : Good st) (id size : Int) (hn : st.sizes.length < n) :
    Got (oCall Tryz.prog [] O (n + 3) 21 [.pointer (some ⟨i, 0, none⟩), .int .i64 id, .int .i64 size] ⟨o, nx, lg⟩) (ResizeTo o nx lg i a b st (resizeP st id size)) := by
  obtain ⟨z, cf, hr, hcf⟩ := h.row
  have hi := h.lt
  have hu0 := hG.used0
  have hle := hG.le
  have hb1 := hG.b1
  have hsz := hG.len
  have hh := fun q => phas_ok (n := n + 1) (nx := nx + q) (lg := []) hO (h.keep (Nat.le_add_right _ _) fun _ _ => rfl) hsz id
  rw [y_fn (rs := [.tmp 6]) (hO _ (by decide)) Tryz.func21 rfl (by kernel_rfl) rfl rfl]
  cases hP : hasP st id with
  | false =>
    have hR : resizeP st id size = (st, 2) := by unfold resizeP; rw [if_pos (.inl hP)]
    rw [hP] at hh
    rw [hR]
    repeat (first | with_reducible (first | refine n_on ?_ | refine n_seq ?_ | refine s_else ?_ | refine n_t ?_ | refine n_gt ?_ | refine d_t ?_ | refine n_nil ?_ | refine d_nil ?_ | refine n_block ?_ | refine n_skip ?_ | refine n_bon ?_ | refine n_bback ?_ | refine n_back ?_ | refine n_out ?_ | refine n_bout rfl ?_ | refine n_bfar rfl ?_ | refine n_ret ?_ | refine n_exit ?_ | refine n_label ?_ | refine n_scope ?_ | refine n_son ?_ | refine n_sback ?_) | (with_reducible (first | apply n_region | apply d_region); (simp only [JV, JU, JW, Nat.reduceAdd, Nat.zero_add]; exact rfl)) | (with_reducible (first | apply s_op | apply n_guard | apply n_cond | apply d_guard | apply d_op | apply n_fin | apply n_finb); (simp (maxDischargeDepth := 6) only [sy3.1, zY, qG, qP, qQ, qR, qS, qT, rowAt, ↓jg, ↓ji, Nat.reduceAdd, Nat.reduceEqDiff, ne_eq, jG, Nat.reduceLT, if_true, ite_true, Int.reduceLE, Int.reduceLT, Int.reduceEq, Int.reduceNeg, Int.reduceAdd, Nat.reduceSub, if_false, ite_false, fs_21.1, slA, hr, pnone_ok hO hr, hh, kind_pure, kind_load, kind_fresh, kind_other, jg, ji, undef]; first | exact rfl | exact ⟨rfl, rfl, rfl, rfl⟩); try (with_reducible refine calmK_in ?_; decide +kernel)))
    exact quiet_end (by rfl) (by rfl) ⟨.same h _, fun e => by cases e⟩
  | true =>
    rw [hP] at hh
    by_cases h1 : size < 0
    · have hR : resizeP st id size = (st, 2) := by unfold resizeP; rw [if_pos (.inr h1)]
      rw [hR]
      repeat (first | with_reducible (first | refine n_on ?_ | refine n_seq ?_ | refine s_else ?_ | refine n_t ?_ | refine n_gt ?_ | refine d_t ?_ | refine n_nil ?_ | refine d_nil ?_ | refine n_block ?_ | refine n_skip ?_ | refine n_bon ?_ | refine n_bback ?_ | refine n_back ?_ | refine n_out ?_ | refine n_bout rfl ?_ | refine n_bfar rfl ?_ | refine n_ret ?_ | refine n_exit ?_ | refine n_label ?_ | refine n_scope ?_ | refine n_son ?_ | refine n_sback ?_) | (with_reducible (first | apply n_region | apply d_region); (simp only [JV, JU, JW, Nat.reduceAdd, Nat.zero_add]; exact rfl)) | (with_reducible (first | apply s_op | apply n_guard | apply n_cond | apply d_guard | apply d_op | apply n_fin | apply n_finb); (simp (maxDischargeDepth := 6) only [sy3.1, zY, qG, qP, qQ, qR, qS, qT, rowAt, ↓jg, ↓ji, Nat.reduceAdd, Nat.reduceEqDiff, ne_eq, jG, Nat.reduceLT, if_true, ite_true, Int.reduceLE, Int.reduceLT, Int.reduceEq, Int.reduceNeg, Int.reduceAdd, Nat.reduceSub, if_false, ite_false, fs_21.1, slA, hr, pnone_ok hO hr, hh, decide_eq_true h1, kind_pure, kind_load, kind_fresh, kind_other, jg, ji, undef]; first | exact rfl | exact ⟨rfl, rfl, rfl, rfl⟩); try (with_reducible refine calmK_in ?_; decide +kernel)))
      exact quiet_end (by rfl) (by rfl) ⟨.same h _, fun e => by cases e⟩
    have d1 := decide_eq_false h1
    obtain ⟨k, hid, hk, h0, hw⟩ := hasP_in hsz hP
    have hku := usedOf_le hG hk h0
    obtain ⟨j, rest, rfl, hj, hrow, hc⟩ := h.sz.at hk
    have hji : j ≠ i := fun e => h.nea (by rw [e])
    have hij := Ne.symm hji
    have ek : (id - 1).toNat = k := by omega
    have b1 : Nat.blt k st.sizes.length = true := by rw [Nat.blt_eq]; exact hk
    have w0 : IntKind.i64.wrap (st.bound - st.used) = st.bound - st.used := wrap_small _ (by omega) (by omega)
    have w1 : IntKind.i64.wrap (st.bound - st.used + st.sizes.getD k 0) = st.bound - st.used + st.sizes.getD k 0 := wrap_small _ (by omega) (by omega)
    have hn1 : ¬ (hasP st id = false ∨ size < 0) := fun h => h.elim (fun h => by rw [hP] at h; cases h) h1
    by_cases h2 : st.bound - st.used + st.sizes.getD k 0 < size
    · have hR : resizeP st id size = (st, 5) := by unfold resizeP; rw [if_neg hn1, ek, if_pos h2]
      rw [hR]
      repeat (first | with_reducible (first | refine n_on ?_ | refine n_seq ?_ | refine s_else ?_ | refine n_t ?_ | refine n_gt ?_ | refine d_t ?_ | refine n_nil ?_ | refine d_nil ?_ | refine n_block ?_ | refine n_skip ?_ | refine n_bon ?_ | refine n_bback ?_ | refine n_back ?_ | refine n_out ?_ | refine n_bout rfl ?_ | refine n_bfar rfl ?_ | refine n_ret ?_ | refine n_exit ?_ | refine n_label ?_ | refine n_scope ?_ | refine n_son ?_ | refine n_sback ?_) | (with_reducible (first | apply n_region | apply d_region); (simp only [JV, JU, JW, Nat.reduceAdd, Nat.zero_add]; exact rfl)) | (with_reducible (first | apply s_op | apply n_guard | apply n_cond | apply d_guard | apply d_op | apply n_fin | apply n_finb); (simp (maxDischargeDepth := 6) only [sy3.1, zY, qG, qP, qQ, qR, qS, qT, rowAt, ↓jg, ↓ji, Nat.reduceAdd, Nat.reduceEqDiff, ne_eq, jG, Nat.reduceLT, if_true, ite_true, Int.reduceLE, Int.reduceLT, Int.reduceEq, Int.reduceNeg, Int.reduceAdd, Nat.reduceSub, if_false, ite_false, fs_21.1, slA, hr, pnone_ok hO hr, hh, hrow, hc, hw, b1, w0, w1, d1, decide_eq_true h2, indexAt, Option.isNone_none, Nat.mul_one, kind_pure, kind_load, kind_fresh, kind_other, jg, ji, undef]; first | exact rfl | exact ⟨rfl, rfl, rfl, rfl⟩); try (with_reducible refine calmK_in ?_; decide +kernel)))
      exact quiet_end (by rfl) (by rfl) ⟨.same h _, fun e => by cases e⟩
    have d2 := decide_eq_false h2
    have t1 := fun y => ints_set st.sizes rest k y hk
    have s1 : (k < (st.sizes.map (Value.int .i64) ++ rest).length) = True := eq_true (by simp; omega)
    have w2 : IntKind.i64.wrap (size - st.sizes.getD k 0) = size - st.sizes.getD k 0 := by
      exact wrap_any (by omega) (by omega)
    have w3 : IntKind.i64.wrap (st.used + (size - st.sizes.getD k 0)) = st.used + (size - st.sizes.getD k 0) := wrap_small _ (by omega) (by omega)
    have hR : resizeP st id size = ({ st with used := st.used + (size - st.sizes.getD k 0), sizes := st.sizes.set k size }, 0) := by unfold resizeP; rw [if_neg hn1, ek, if_neg h2]
    rw [hR]
    repeat (first | with_reducible (first | refine n_on ?_ | refine n_seq ?_ | refine s_else ?_ | refine n_t ?_ | refine n_gt ?_ | refine d_t ?_ | refine n_nil ?_ | refine d_nil ?_ | refine n_block ?_ | refine n_skip ?_ | refine n_bon ?_ | refine n_bback ?_ | refine n_back ?_ | refine n_out ?_ | refine n_bout rfl ?_ | refine n_bfar rfl ?_ | refine n_ret ?_ | refine n_exit ?_ | refine n_label ?_ | refine n_scope ?_ | refine n_son ?_ | refine n_sback ?_) | (with_reducible (first | apply n_region | apply d_region); (simp only [JV, JU, JW, Nat.reduceAdd, Nat.zero_add]; exact rfl)) | (with_reducible (first | apply s_op | apply n_guard | apply n_cond | apply d_guard | apply d_op | apply n_fin | apply n_finb); (simp (maxDischargeDepth := 6) only [sy3.1, zY, qG, qP, qQ, qR, qS, qT, rowAt, ↓jg, ↓ji, Nat.reduceAdd, Nat.reduceEqDiff, ne_eq, jG, Nat.reduceLT, if_true, ite_true, Int.reduceLE, Int.reduceLT, Int.reduceEq, Int.reduceNeg, Int.reduceAdd, Nat.reduceSub, if_false, ite_false, fs_21.1, slA, hr, pnone_ok hO hr, hh, hrow, hc, hw, b1, w0, w1, w2, w3, d1, d2, t1, s1, hi, hj, hij, hji, indexAt, Option.isNone_none, Nat.mul_one, kind_pure, kind_load, kind_fresh, kind_other, jg, ji, undef]; first | exact rfl | exact ⟨rfl, rfl, rfl, rfl⟩); try (with_reducible refine calmK_in ?_; decide +kernel)))
    refine loud_end (x := i) (by simp only [in_relogL, in_note, true_or, or_true]) hi fun l' hmo hin => ?_
    refine ⟨⟨_, _, _, some j, b, rfl, by omega, ⟨by omega, ⟨z, cf, by (repeat (first | rw [qE] | rw [qF _ _ _ _ (by omega)])); simp only [List.length_set]; rfl, hcf.turn (by simp)⟩, .inr ⟨_, rest, rfl, by omega, by (repeat (first | rw [qE] | rw [qF _ _ _ _ (by omega)]))⟩, h.fr.keep (by omega) fun k e => ?_, h.nea, h.neb, h.neab⟩, fun x hx hm => ?_, .inl rfl, .inl rfl, hmo, .inl (hin i (by simp only [in_relogL, in_note, true_or, or_true]) hi)⟩, fun _ => hin i (by simp only [in_relogL, in_note, true_or, or_true]) hi⟩
    · have e1 : k ≠ i := fun e2 => h.neb (by rw [e, e2])
      have e2 : k ≠ j := fun e2 => h.neab j rfl (by rw [e, e2])
      (repeat (first | rw [qE] | rw [qF _ _ _ _ (by omega)]))
    · have e1 : x ≠ i := fun e => hm (.inl e)
      have e2 : x ≠ j := fun e => hm (.inr (.inl (by rw [e])))
      (repeat (first | rw [qE] | rw [qF _ _ _ _ (by omega)]))
theorem presize_ok (hO : Clear O) (h : PoolIn o nx i a b st) (hG : Good st) (id size : Int) (hn : st.sizes.length < n) :
    Got (oCall Tryz.prog [] O (n + 3) 21 [.pointer (some ⟨i, 0, none⟩), .int .i64 id, .int .i64 size] ⟨o, nx, lg⟩) (PoolTo o nx lg i a b st (resizeP st id size).1 (.int .i64 (resizeP st id size).2)) := (presize_log hO h hG id size hn).mono fun _ h => h.1
end
end Go.Proofs.YtdfadipfhcikdaaGreatDoor
