/- Heap: the calls that only look, on the abstract machine. -/
import Derived.Test.YthnlkahgmbadoaaHmIn
namespace Go.Proofs.Ythnlkahgmbadoaa
open Go.RowKit
set_option linter.unusedSimpArgs false
set_option linter.unusedVariables false
set_option maxRecDepth 100000

def holdsK (k : Int) : Bool := (decide (4 ≤ k) && decide (k ≤ 6)) || (decide (k = 8) || decide (k = 9))
def lookO (l : List (Int × Ob)) (d : Int) : Option Ob := (l.find? (fun q => decide (q.1 = d))).map (·.2)
def findO (hs : HS) (v : VV) : Option Ob := if holdsK v.1 = true then (match lookO hs.objs v.2 with
  | some ob => if ob.kind = v.1 then some ob else none
  | none => none) else none
def keepO (hs : HS) (v : VV) : Bool := if 8 < v.1 ∨ (v.1 ≤ 2 ∧ v.2 ≠ 0) then false else if holdsK v.1 = true then (findO hs v).isSome else true
theorem kv_obj (B : HB) (d : Int) : ∀ (l : List (Int × Ob)) (i : Nat), (lookO l d = none ∧ findK d (objKV B l) i = none) ∨ ∃ ob r, lookO l d = some ob ∧ (d, ob) ∈ l ∧ findK d (objKV B l) i = some (r, .pointer (some ⟨B.bl d, 0, none⟩))
  | [], i => .inl ⟨rfl, rfl⟩
  | q :: l, i => by
    by_cases e : q.1 = d
    · refine .inr ⟨q.2, i, ?_, ?_, ?_⟩
      · unfold lookO; rw [List.find?_cons_of_pos (by simp [e])]; rfl
      · rw [← e]; simp
      · simp only [objKV, List.map_cons, findK, e, if_true]
    · rcases kv_obj B d l (i + 1) with ⟨h1, h2⟩ | ⟨ob, r, h1, h2, h3⟩
      · refine .inl ⟨?_, ?_⟩
        · unfold lookO at h1 ⊢; rw [List.find?_cons_of_neg (by simp [e])]; exact h1
        · simp only [objKV, List.map_cons, findK]; rw [if_neg (fun h => e h.symm)]; exact h2
      · refine .inr ⟨ob, r, ?_, List.mem_cons_of_mem _ h2, ?_⟩
        · unfold lookO at h1 ⊢; rw [List.find?_cons_of_neg (by simp [e])]; exact h1
        · simp only [objKV, List.map_cons, findK]; rw [if_neg (fun h => e h.symm)]; exact h3
theorem look_mem {l : List (Int × Ob)} {d : Int} {ob : Ob} (h : lookO l d = some ob) : (d, ob) ∈ l := by
  unfold lookO at h
  obtain ⟨q, hq, rfl⟩ := Option.map_eq_some_iff.1 h
  have h1 := List.mem_of_find?_eq_some hq
  have h2 := List.find?_some hq
  simp only [decide_eq_true_eq] at h2
  rw [← h2]; exact h1
section
variable {O : Helps} {n : Nat} {o : Tr AObj} {nx : Nat} {lg : List Nat} {w : Nat → Nat} {B : HB} {hs : HS}
set_option maxHeartbeats 4000000 in
theorem hright_ok (hO : Clear O) {i m p : Nat} {c0 c3 c4 c5 c6 : Value} {e z : Nat} {own : Bool} : ∀ (o : Tr AObj) (nx : Nat) (lg : List Nat), o.get i = some (.row [c0, .pointer (some ⟨p, 0, none⟩), .map (some m), c3, c4, c5, c6] e z own) → oCall Try.prog [] O (n + 1) 22 [.pointer (some ⟨i, 0, none⟩)] ⟨o, nx, lg⟩ = some (.bool true, ⟨o, nx, lg⟩) := by
  intro o nx lg h
  refine of_got ?_
  rw [y_fn (rs := [.tmp 2]) (hO _ (by decide)) Try.func22 rfl (by kernel_rfl) rfl rfl]
  repeat (first | with_reducible (first | refine n_on ?_ | refine n_seq ?_ | refine s_else ?_ | refine n_t ?_ | refine n_gt ?_ | refine d_t ?_ | refine n_nil ?_ | refine d_nil ?_ | refine n_block ?_ | refine n_skip ?_ | refine n_bon ?_ | refine n_bback ?_ | refine n_back ?_ | refine n_out ?_ | refine n_bout rfl ?_ | refine n_bfar rfl ?_ | refine n_ret ?_ | refine n_exit ?_ | refine n_label ?_ | refine n_scope ?_ | refine n_son ?_ | refine n_sback ?_) | (with_reducible (first | apply n_region | apply d_region); (simp only [JV, JU, JW, Nat.reduceAdd, Nat.zero_add]; exact rfl)) | (with_reducible (first | apply s_op | apply n_guard | apply n_cond | apply d_guard | apply d_op | apply n_fin | apply n_finb); (simp (maxDischargeDepth := 6) only [sy3.1, zY, qG, qP, qQ, qR, qS, qT, rowAt, ↓jg, ↓ji, Nat.reduceAdd, Nat.reduceEqDiff, ne_eq, jG, Nat.reduceLT, if_true, ite_true, Int.reduceLE, Int.reduceLT, Int.reduceEq, Int.reduceNeg, Int.reduceAdd, Nat.reduceSub, if_false, ite_false, fs_22.1, h, kind_pure, kind_load, kind_fresh, kind_other, jg, ji, undef]; first | exact rfl | exact ⟨rfl, rfl, rfl, rfl⟩); try (with_reducible refine calmK_in ?_; decide +kernel)))
  try exact Ja (by rfl) (by rfl)
set_option maxHeartbeats 4000000 in
theorem holds_ok (hO : Clear O) (v : VV) : ∀ (o : Tr AObj) (nx : Nat) (lg : List Nat), oCall Try.prog [] O (n + 1) 45 [.agg #[.int .u8 v.1, .int .i64 v.2]] ⟨o, nx, lg⟩ = some (.bool (holdsK v.1), ⟨o, nx, lg⟩) := by
  intro o nx lg
  refine of_got ?_
  rw [y_fn (rs := [.tmp 2]) (hO _ (by decide)) Try.func45 rfl (by kernel_rfl) rfl rfl]
  unfold holdsK
  by_cases h1 : 4 ≤ v.1
  · by_cases h2 : v.1 ≤ 6
    · rw [decide_eq_true h1, decide_eq_true h2]
      repeat (first | with_reducible (first | refine n_on ?_ | refine n_seq ?_ | refine s_else ?_ | refine n_t ?_ | refine n_gt ?_ | refine d_t ?_ | refine n_nil ?_ | refine d_nil ?_ | refine n_block ?_ | refine n_skip ?_ | refine n_bon ?_ | refine n_bback ?_ | refine n_back ?_ | refine n_out ?_ | refine n_bout rfl ?_ | refine n_bfar rfl ?_ | refine n_ret ?_ | refine n_exit ?_ | refine n_label ?_ | refine n_scope ?_ | refine n_son ?_ | refine n_sback ?_) | (with_reducible (first | apply n_region | apply d_region); (simp only [JV, JU, JW, Nat.reduceAdd, Nat.zero_add]; exact rfl)) | (with_reducible (first | apply s_op | apply n_guard | apply n_cond | apply d_guard | apply d_op | apply n_fin | apply n_finb); (simp (maxDischargeDepth := 6) only [sy3.1, zY, qG, qP, qQ, qR, qS, qT, rowAt, ↓jg, ↓ji, Nat.reduceAdd, Nat.reduceEqDiff, ne_eq, jG, Nat.reduceLT, if_true, ite_true, Int.reduceLE, Int.reduceLT, Int.reduceEq, Int.reduceNeg, Int.reduceAdd, Nat.reduceSub, if_false, ite_false, fs_45.1, decide_eq_true h1, decide_eq_true h2, kind_pure, kind_load, kind_fresh, kind_other, jg, ji, undef]; first | exact rfl | exact ⟨rfl, rfl, rfl, rfl⟩); try (with_reducible refine calmK_in ?_; decide +kernel)))
      try exact Ja (by rfl) (by rfl)
    · by_cases h3 : v.1 = 8
      · rw [decide_eq_true h1, decide_eq_false h2, decide_eq_true h3]
        repeat (first | with_reducible (first | refine n_on ?_ | refine n_seq ?_ | refine s_else ?_ | refine n_t ?_ | refine n_gt ?_ | refine d_t ?_ | refine n_nil ?_ | refine d_nil ?_ | refine n_block ?_ | refine n_skip ?_ | refine n_bon ?_ | refine n_bback ?_ | refine n_back ?_ | refine n_out ?_ | refine n_bout rfl ?_ | refine n_bfar rfl ?_ | refine n_ret ?_ | refine n_exit ?_ | refine n_label ?_ | refine n_scope ?_ | refine n_son ?_ | refine n_sback ?_) | (with_reducible (first | apply n_region | apply d_region); (simp only [JV, JU, JW, Nat.reduceAdd, Nat.zero_add]; exact rfl)) | (with_reducible (first | apply s_op | apply n_guard | apply n_cond | apply d_guard | apply d_op | apply n_fin | apply n_finb); (simp (maxDischargeDepth := 6) only [sy3.1, zY, qG, qP, qQ, qR, qS, qT, rowAt, ↓jg, ↓ji, Nat.reduceAdd, Nat.reduceEqDiff, ne_eq, jG, Nat.reduceLT, if_true, ite_true, Int.reduceLE, Int.reduceLT, Int.reduceEq, Int.reduceNeg, Int.reduceAdd, Nat.reduceSub, if_false, ite_false, fs_45.1, decide_eq_true h1, decide_eq_false h2, decide_eq_true h3, kind_pure, kind_load, kind_fresh, kind_other, jg, ji, undef]; first | exact rfl | exact ⟨rfl, rfl, rfl, rfl⟩); try (with_reducible refine calmK_in ?_; decide +kernel)))
        try exact Ja (by rfl) (by rfl)
      · rw [decide_eq_true h1, decide_eq_false h2, decide_eq_false h3]
        repeat (first | with_reducible (first | refine n_on ?_ | refine n_seq ?_ | refine s_else ?_ | refine n_t ?_ | refine n_gt ?_ | refine d_t ?_ | refine n_nil ?_ | refine d_nil ?_ | refine n_block ?_ | refine n_skip ?_ | refine n_bon ?_ | refine n_bback ?_ | refine n_back ?_ | refine n_out ?_ | refine n_bout rfl ?_ | refine n_bfar rfl ?_ | refine n_ret ?_ | refine n_exit ?_ | refine n_label ?_ | refine n_scope ?_ | refine n_son ?_ | refine n_sback ?_) | (with_reducible (first | apply n_region | apply d_region); (simp only [JV, JU, JW, Nat.reduceAdd, Nat.zero_add]; exact rfl)) | (with_reducible (first | apply s_op | apply n_guard | apply n_cond | apply d_guard | apply d_op | apply n_fin | apply n_finb); (simp (maxDischargeDepth := 6) only [sy3.1, zY, qG, qP, qQ, qR, qS, qT, rowAt, ↓jg, ↓ji, Nat.reduceAdd, Nat.reduceEqDiff, ne_eq, jG, Nat.reduceLT, if_true, ite_true, Int.reduceLE, Int.reduceLT, Int.reduceEq, Int.reduceNeg, Int.reduceAdd, Nat.reduceSub, if_false, ite_false, fs_45.1, decide_eq_true h1, decide_eq_false h2, decide_eq_false h3, kind_pure, kind_load, kind_fresh, kind_other, jg, ji, undef]; first | exact rfl | exact ⟨rfl, rfl, rfl, rfl⟩); try (with_reducible refine calmK_in ?_; decide +kernel)))
        try exact Ja (by rfl) (by rfl)
  · have h3 : ¬ v.1 = 8 := by omega
    rw [decide_eq_false h1, decide_eq_false h3]
    repeat (first | with_reducible (first | refine n_on ?_ | refine n_seq ?_ | refine s_else ?_ | refine n_t ?_ | refine n_gt ?_ | refine d_t ?_ | refine n_nil ?_ | refine d_nil ?_ | refine n_block ?_ | refine n_skip ?_ | refine n_bon ?_ | refine n_bback ?_ | refine n_back ?_ | refine n_out ?_ | refine n_bout rfl ?_ | refine n_bfar rfl ?_ | refine n_ret ?_ | refine n_exit ?_ | refine n_label ?_ | refine n_scope ?_ | refine n_son ?_ | refine n_sback ?_) | (with_reducible (first | apply n_region | apply d_region); (simp only [JV, JU, JW, Nat.reduceAdd, Nat.zero_add]; exact rfl)) | (with_reducible (first | apply s_op | apply n_guard | apply n_cond | apply d_guard | apply d_op | apply n_fin | apply n_finb); (simp (maxDischargeDepth := 6) only [sy3.1, zY, qG, qP, qQ, qR, qS, qT, rowAt, ↓jg, ↓ji, Nat.reduceAdd, Nat.reduceEqDiff, ne_eq, jG, Nat.reduceLT, if_true, ite_true, Int.reduceLE, Int.reduceLT, Int.reduceEq, Int.reduceNeg, Int.reduceAdd, Nat.reduceSub, if_false, ite_false, fs_45.1, decide_eq_false h1, decide_eq_false h3, kind_pure, kind_load, kind_fresh, kind_other, jg, ji, undef]; first | exact rfl | exact ⟨rfl, rfl, rfl, rfl⟩); try (with_reducible refine calmK_in ?_; decide +kernel)))
    try exact Ja (by rfl) (by rfl)
theorem ptr0_neq : binV Try.prog .neq 68 false true (.pointer none) (.pointer none) = some (.bool false) := by kernel_rfl
theorem ptr0_eql : binV Try.prog .eql 68 false true (.pointer none) (.pointer none) = some (.bool true) := by kernel_rfl
/-- what find tells -/
abbrev foundV (B : HB) (hs : HS) (v : VV) : Value := match findO hs v with
  | some _ => .pointer (some ⟨B.bl v.2, 0, none⟩)
  | none => .pointer none
set_option maxHeartbeats 8000000 in
theorem find_ok (hO : Clear O) (h : HeapIn o nx w B hs) (v : VV) : oCall Try.prog [] O (n + 2) 32 [.pointer (some ⟨B.i, 0, none⟩), .agg #[.int .u8 v.1, .int .i64 v.2]] ⟨o, nx, lg⟩ = some (foundV B hs v, ⟨o, nx, lg⟩) := by
  refine of_got ?_
  obtain ⟨z, hr⟩ := h.row
  obtain ⟨es, c, hm, hmap⟩ := h.all
  have hi := h.lt
  have hma := h.wlt B.ma (by rw [h.wma]; decide)
  have hl : ∀ H : AHeap, H.get B.ma = some (.map es c) → aLookup Try.prog 60 (.map (some B.ma)) (.int .i64 v.2) false H = _ := fun H hg => aLookup_by key_int Try.underlying60 (show zeroOf Try.prog 68 = some (.pointer none) from by kernel_rfl) hg hmap v.2 false
  have hright := hright_ok (n := n) (i := B.i) (m := B.ma) (p := B.p) (c0 := .int .i64 hs.max) (c3 := .map (some B.mt)) (c4 := .int .i64 hs.made) (c5 := .bool hs.watch) (c6 := .map (some B.mn)) (e := 64) (z := z) (own := true) hO
  have hholds := holds_ok (n := n) hO v
  unfold foundV findO
  rw [y_fn (rs := [.tmp 4]) (hO _ (by decide)) Try.func32 rfl (by kernel_rfl) rfl rfl]
  cases hh : holdsK v.1 with
  | false =>
    rw [hh] at hholds
    repeat (first | with_reducible (first | refine n_on ?_ | refine n_seq ?_ | refine s_else ?_ | refine n_t ?_ | refine n_gt ?_ | refine d_t ?_ | refine n_nil ?_ | refine d_nil ?_ | refine n_block ?_ | refine n_skip ?_ | refine n_bon ?_ | refine n_bback ?_ | refine n_back ?_ | refine n_out ?_ | refine n_bout rfl ?_ | refine n_bfar rfl ?_ | refine n_ret ?_ | refine n_exit ?_ | refine n_label ?_ | refine n_scope ?_ | refine n_son ?_ | refine n_sback ?_) | (with_reducible (first | apply n_region | apply d_region); (simp only [JV, JU, JW, Nat.reduceAdd, Nat.zero_add]; exact rfl)) | (with_reducible (first | apply s_op | apply n_guard | apply n_cond | apply d_guard | apply d_op | apply n_fin | apply n_finb); (simp (maxDischargeDepth := 6) only [sy3.1, zY, qG, qP, qQ, qR, qS, qT, rowAt, ↓jg, ↓ji, Nat.reduceAdd, Nat.reduceEqDiff, ne_eq, jG, Nat.reduceLT, if_true, ite_true, Int.reduceLE, Int.reduceLT, Int.reduceEq, Int.reduceNeg, Int.reduceAdd, Nat.reduceSub, if_false, ite_false, fs_32.1, hr, hi, hright, hholds, kind_pure, kind_load, kind_fresh, kind_other, jg, ji, undef]; first | exact rfl | exact ⟨rfl, rfl, rfl, rfl⟩); try (with_reducible refine calmK_in ?_; decide +kernel)))
    try exact Ja (by rfl) (by rfl)
  | true =>
    rw [hh] at hholds
    simp only [if_true]
    rcases kv_obj B v.2 hs.objs 0 with ⟨h1, h2⟩ | ⟨ob, r, h1, h2, h3⟩
    · rw [h2] at hl
      rw [h1]
      repeat (first | with_reducible (first | refine n_on ?_ | refine n_seq ?_ | refine s_else ?_ | refine n_t ?_ | refine n_gt ?_ | refine d_t ?_ | refine n_nil ?_ | refine d_nil ?_ | refine n_block ?_ | refine n_skip ?_ | refine n_bon ?_ | refine n_bback ?_ | refine n_back ?_ | refine n_out ?_ | refine n_bout rfl ?_ | refine n_bfar rfl ?_ | refine n_ret ?_ | refine n_exit ?_ | refine n_label ?_ | refine n_scope ?_ | refine n_son ?_ | refine n_sback ?_) | (with_reducible (first | apply n_region | apply d_region); (simp only [JV, JU, JW, Nat.reduceAdd, Nat.zero_add]; exact rfl)) | (with_reducible (first | apply s_op | apply n_guard | apply n_cond | apply d_guard | apply d_op | apply n_fin | apply n_finb); (simp (maxDischargeDepth := 6) only [sy3.1, zY, qG, qP, qQ, qR, qS, qT, rowAt, ↓jg, ↓ji, Nat.reduceAdd, Nat.reduceEqDiff, ne_eq, jG, Nat.reduceLT, if_true, ite_true, Int.reduceLE, Int.reduceLT, Int.reduceEq, Int.reduceNeg, Int.reduceAdd, Nat.reduceSub, if_false, ite_false, fs_32.1, hr, hi, hma, hright, hholds, hm, hl, ptr0_neq, kind_pure, kind_load, kind_fresh, kind_other, jg, ji, undef]; first | exact rfl | exact ⟨rfl, rfl, rfl, rfl⟩); try (with_reducible refine calmK_in ?_; decide +kernel)))
      try exact Ja (by rfl) (by rfl)
    · rw [h3] at hl
      rw [h1]
      have hob := h.obs _ h2
      obtain ⟨tp, sp, ca, cc, z1, hro, _⟩ := hob.ex
      have hbl := hob.lt
      simp only at hro hbl
      by_cases hk : ob.kind = v.1
      · simp only [hk, if_true]
        repeat (first | with_reducible (first | refine n_on ?_ | refine n_seq ?_ | refine s_else ?_ | refine n_t ?_ | refine n_gt ?_ | refine d_t ?_ | refine n_nil ?_ | refine d_nil ?_ | refine n_block ?_ | refine n_skip ?_ | refine n_bon ?_ | refine n_bback ?_ | refine n_back ?_ | refine n_out ?_ | refine n_bout rfl ?_ | refine n_bfar rfl ?_ | refine n_ret ?_ | refine n_exit ?_ | refine n_label ?_ | refine n_scope ?_ | refine n_son ?_ | refine n_sback ?_) | (with_reducible (first | apply n_region | apply d_region); (simp only [JV, JU, JW, Nat.reduceAdd, Nat.zero_add]; exact rfl)) | (with_reducible (first | apply s_op | apply n_guard | apply n_cond | apply d_guard | apply d_op | apply n_fin | apply n_finb); (simp (maxDischargeDepth := 6) only [sy3.1, zY, qG, qP, qQ, qR, qS, qT, rowAt, ↓jg, ↓ji, Nat.reduceAdd, Nat.reduceEqDiff, ne_eq, jG, Nat.reduceLT, if_true, ite_true, Int.reduceLE, Int.reduceLT, Int.reduceEq, Int.reduceNeg, Int.reduceAdd, Nat.reduceSub, if_false, ite_false, fs_32.1, hr, hi, hma, hright, hholds, hm, hl, hro, hbl, obRow, decide_eq_true hk, kind_pure, kind_load, kind_fresh, kind_other, jg, ji, undef]; first | exact rfl | exact ⟨rfl, rfl, rfl, rfl⟩); try (with_reducible refine calmK_in ?_; decide +kernel)))
        try exact Ja (by simp only [all_relogL, js, ju, List.all_nil, jt, Bool.and_self]) (by show Nat.blt _ _ = true; rw [Nat.blt_eq]; exact hbl)
      · simp only [hk, if_false]
        repeat (first | with_reducible (first | refine n_on ?_ | refine n_seq ?_ | refine s_else ?_ | refine n_t ?_ | refine n_gt ?_ | refine d_t ?_ | refine n_nil ?_ | refine d_nil ?_ | refine n_block ?_ | refine n_skip ?_ | refine n_bon ?_ | refine n_bback ?_ | refine n_back ?_ | refine n_out ?_ | refine n_bout rfl ?_ | refine n_bfar rfl ?_ | refine n_ret ?_ | refine n_exit ?_ | refine n_label ?_ | refine n_scope ?_ | refine n_son ?_ | refine n_sback ?_) | (with_reducible (first | apply n_region | apply d_region); (simp only [JV, JU, JW, Nat.reduceAdd, Nat.zero_add]; exact rfl)) | (with_reducible (first | apply s_op | apply n_guard | apply n_cond | apply d_guard | apply d_op | apply n_fin | apply n_finb); (simp (maxDischargeDepth := 6) only [sy3.1, zY, qG, qP, qQ, qR, qS, qT, rowAt, ↓jg, ↓ji, Nat.reduceAdd, Nat.reduceEqDiff, ne_eq, jG, Nat.reduceLT, if_true, ite_true, Int.reduceLE, Int.reduceLT, Int.reduceEq, Int.reduceNeg, Int.reduceAdd, Nat.reduceSub, if_false, ite_false, fs_32.1, hr, hi, hma, hright, hholds, hm, hl, hro, hbl, obRow, decide_eq_false hk, kind_pure, kind_load, kind_fresh, kind_other, jg, ji, undef]; first | exact rfl | exact ⟨rfl, rfl, rfl, rfl⟩); try (with_reducible refine calmK_in ?_; decide +kernel)))
        try exact Ja (by rfl) (by rfl)
end
end Go.Proofs.Ythnlkahgmbadoaa
