/- Heap: Str and Text, on the abstract machine, where nothing is noted. -/
import Derived.Test.YthnlkahgmbadoaaHmCell
namespace Go.Proofs.Ythnlkahgmbadoaa
open Go.RowKit
set_option linter.unusedSimpArgs false
set_option linter.unusedVariables false
set_option maxRecDepth 100000

def lookT (l : List (ByteArray × Int)) (s : ByteArray) : Option Int := (l.find? fun q => decide (q.1 = s)).map (·.2)
theorem kv_txt (s : ByteArray) : ∀ (l : List (ByteArray × Int)) (i : Nat), (lookT l s = none ∧ findK s (l.map fun q => (q.1, (Value.int .i64 q.2))) i = none) ∨ ∃ d r, lookT l s = some d ∧ findK s (l.map fun q => (q.1, (Value.int .i64 q.2))) i = some (r, .int .i64 d)
  | [], i => .inl ⟨rfl, rfl⟩
  | q :: l, i => by
    by_cases e : q.1 = s
    · refine .inr ⟨q.2, i, ?_, ?_⟩
      · unfold lookT; rw [List.find?_cons_of_pos (by simp [e])]; rfl
      · simp only [List.map_cons, findK, e, if_true]
    · rcases kv_txt s l (i + 1) with ⟨h1, h2⟩ | ⟨d, r, h1, h2⟩
      · refine .inl ⟨?_, ?_⟩
        · unfold lookT at h1 ⊢; rw [List.find?_cons_of_neg (by simp [e])]; exact h1
        · simp only [List.map_cons, findK]; rw [if_neg (fun h => e h.symm)]; exact h2
      · refine .inr ⟨d, r, ?_, ?_⟩
        · unfold lookT at h1 ⊢; rw [List.find?_cons_of_neg (by simp [e])]; exact h1
        · simp only [List.map_cons, findK]; rw [if_neg (fun h => e h.symm)]; exact h2
section
variable {O : Helps} {n : Nat} {o : Tr AObj} {nx : Nat} {lg : List Nat} {w : Nat → Nat} {B : HB} {hs : HS}
set_option maxHeartbeats 8000000 in
theorem note_off (hO : Clear O) (h : HeapIn o nx w B hs) (hw : hs.watch = false) (d : Int) : oCall Try.prog [] O (n + 1) 23 [.pointer (some ⟨B.i, 0, none⟩), .int .i64 d] ⟨o, nx, lg⟩ = some (.tuple #[], ⟨o, nx, lg⟩) := by
  refine of_got ?_
  obtain ⟨z, hr⟩ := h.row
  have hi := h.lt
  rw [heapRow, hw] at hr
  rw [y_fn (rs := []) (hO _ (by decide)) Try.func23 rfl (by kernel_rfl) rfl rfl]
  repeat (first | with_reducible (first | refine n_on ?_ | refine n_seq ?_ | refine s_else ?_ | refine n_t ?_ | refine n_gt ?_ | refine d_t ?_ | refine n_nil ?_ | refine d_nil ?_ | refine n_block ?_ | refine n_skip ?_ | refine n_bon ?_ | refine n_bback ?_ | refine n_back ?_ | refine n_out ?_ | refine n_bout rfl ?_ | refine n_bfar rfl ?_ | refine n_ret ?_ | refine n_exit ?_ | refine n_label ?_ | refine n_scope ?_ | refine n_son ?_ | refine n_sback ?_) | (with_reducible (first | apply n_region | apply d_region); (simp only [JV, JU, JW, Nat.reduceAdd, Nat.zero_add]; exact rfl)) | (with_reducible (first | apply s_op | apply n_guard | apply n_cond | apply d_guard | apply d_op | apply n_fin | apply n_finb); (simp (maxDischargeDepth := 6) only [sy3.1, zY, qG, qP, qQ, qR, qS, qT, rowAt, ↓jg, ↓ji, Nat.reduceAdd, Nat.reduceEqDiff, ne_eq, jG, Nat.reduceLT, if_true, ite_true, Int.reduceLE, Int.reduceLT, Int.reduceEq, Int.reduceNeg, Int.reduceAdd, Nat.reduceSub, if_false, ite_false, fs_23.1, hr, hi, kind_pure, kind_load, kind_fresh, kind_other, jg, ji, undef]; first | exact rfl | exact ⟨rfl, rfl, rfl, rfl⟩); try (with_reducible refine calmK_in ?_; decide +kernel)))
  exact Ja (by rfl) (by rfl)
/-- Text: a text's bytes -/
def textO (hs : HS) (v : VV) : ByteArray × Bool := match ofO hs v 4 with
  | some ob => (ob.text, true)
  | none => (⟨#[]⟩, false)
set_option maxHeartbeats 16000000 in
theorem text_ok (hO : Clear O) (h : HeapIn o nx w B hs) (v : VV) : oCall Try.prog [] O (n + 4) 7 [.pointer (some ⟨B.i, 0, none⟩), .agg #[.int .u8 v.1, .int .i64 v.2]] ⟨o, nx, lg⟩ = some (.tuple #[.string (textO hs v).1, .bool (textO hs v).2], ⟨o, nx, lg⟩) := by
  refine of_got ?_
  have hof := fun (X : AObj) (q : Nat) (lg : List Nat) => of_ok (n := n) (lg := lg) hO (more1 h (some X) q) v 4
  unfold textO ofO
  rw [y_fn (rs := [.tmp 4, .tmp 5]) (hO _ (by decide)) Try.func7 rfl (by kernel_rfl) rfl rfl]
  by_cases h9 : v.1 = 4
  · rw [if_pos h9] at hof ⊢
    unfold foundV at hof
    cases hf : findO hs v with
    | none =>
      rw [hf] at hof
      repeat (first | with_reducible (first | refine n_on ?_ | refine n_seq ?_ | refine s_else ?_ | refine n_t ?_ | refine n_gt ?_ | refine d_t ?_ | refine n_nil ?_ | refine d_nil ?_ | refine n_block ?_ | refine n_skip ?_ | refine n_bon ?_ | refine n_bback ?_ | refine n_back ?_ | refine n_out ?_ | refine n_bout rfl ?_ | refine n_bfar rfl ?_ | refine n_ret ?_ | refine n_exit ?_ | refine n_label ?_ | refine n_scope ?_ | refine n_son ?_ | refine n_sback ?_) | (with_reducible (first | apply n_region | apply d_region); (simp only [JV, JU, JW, Nat.reduceAdd, Nat.zero_add]; exact rfl)) | (with_reducible (first | apply s_op | apply n_guard | apply n_cond | apply d_guard | apply d_op | apply n_fin | apply n_finb); (simp (maxDischargeDepth := 6) only [sy3.1, zY, qG, qP, qQ, qR, qS, qT, rowAt, ↓jg, ↓ji, Nat.reduceAdd, Nat.reduceEqDiff, ne_eq, jG, Nat.reduceLT, if_true, ite_true, Int.reduceLE, Int.reduceLT, Int.reduceEq, Int.reduceNeg, Int.reduceAdd, Nat.reduceSub, if_false, ite_false, fs_7.1, hof, ptr0_neq, kind_pure, kind_load, kind_fresh, kind_other, jg, ji, undef]; first | exact rfl | exact ⟨rfl, rfl, rfl, rfl⟩); try (with_reducible refine calmK_in ?_; decide +kernel)))
      try exact Ja (by simp only [all_relogL, js, ju, List.all_nil, jt, Bool.and_self]) (by rfl)
    | some ob =>
      rw [hf] at hof
      obtain ⟨hm, hkd⟩ := found_in hf
      have hob := h.obs _ hm
      obtain ⟨tp, sp, ca, cc, zz, hro, _⟩ := hob.ex
      have hbl := hob.lt
      simp only at hro hbl
      repeat (first | with_reducible (first | refine n_on ?_ | refine n_seq ?_ | refine s_else ?_ | refine n_t ?_ | refine n_gt ?_ | refine d_t ?_ | refine n_nil ?_ | refine d_nil ?_ | refine n_block ?_ | refine n_skip ?_ | refine n_bon ?_ | refine n_bback ?_ | refine n_back ?_ | refine n_out ?_ | refine n_bout rfl ?_ | refine n_bfar rfl ?_ | refine n_ret ?_ | refine n_exit ?_ | refine n_label ?_ | refine n_scope ?_ | refine n_son ?_ | refine n_sback ?_) | (with_reducible (first | apply n_region | apply d_region); (simp only [JV, JU, JW, Nat.reduceAdd, Nat.zero_add]; exact rfl)) | (with_reducible (first | apply s_op | apply n_guard | apply n_cond | apply d_guard | apply d_op | apply n_fin | apply n_finb); (simp (maxDischargeDepth := 6) only [sy3.1, zY, qG, qP, qQ, qR, qS, qT, rowAt, ↓jg, ↓ji, Nat.reduceAdd, Nat.reduceEqDiff, ne_eq, jG, Nat.reduceLT, if_true, ite_true, Int.reduceLE, Int.reduceLT, Int.reduceEq, Int.reduceNeg, Int.reduceAdd, Nat.reduceSub, if_false, ite_false, fs_7.1, obRow, hof, hro, hbl, kind_pure, kind_load, kind_fresh, kind_other, jg, ji, undef]; first | exact rfl | exact ⟨rfl, rfl, rfl, rfl⟩); try (with_reducible refine calmK_in ?_; decide +kernel)))
      try exact Ja (by simp only [all_relogL, js, ju, List.all_nil, jt, Bool.and_self]) (by rfl)
  · rw [if_neg h9] at hof ⊢
    repeat (first | with_reducible (first | refine n_on ?_ | refine n_seq ?_ | refine s_else ?_ | refine n_t ?_ | refine n_gt ?_ | refine d_t ?_ | refine n_nil ?_ | refine d_nil ?_ | refine n_block ?_ | refine n_skip ?_ | refine n_bon ?_ | refine n_bback ?_ | refine n_back ?_ | refine n_out ?_ | refine n_bout rfl ?_ | refine n_bfar rfl ?_ | refine n_ret ?_ | refine n_exit ?_ | refine n_label ?_ | refine n_scope ?_ | refine n_son ?_ | refine n_sback ?_) | (with_reducible (first | apply n_region | apply d_region); (simp only [JV, JU, JW, Nat.reduceAdd, Nat.zero_add]; exact rfl)) | (with_reducible (first | apply s_op | apply n_guard | apply n_cond | apply d_guard | apply d_op | apply n_fin | apply n_finb); (simp (maxDischargeDepth := 6) only [sy3.1, zY, qG, qP, qQ, qR, qS, qT, rowAt, ↓jg, ↓ji, Nat.reduceAdd, Nat.reduceEqDiff, ne_eq, jG, Nat.reduceLT, if_true, ite_true, Int.reduceLE, Int.reduceLT, Int.reduceEq, Int.reduceNeg, Int.reduceAdd, Nat.reduceSub, if_false, ite_false, fs_7.1, hof, ptr0_neq, kind_pure, kind_load, kind_fresh, kind_other, jg, ji, undef]; first | exact rfl | exact ⟨rfl, rfl, rfl, rfl⟩); try (with_reducible refine calmK_in ?_; decide +kernel)))
    try exact Ja (by simp only [all_relogL, js, ju, List.all_nil, jt, Bool.and_self]) (by rfl)
end
end Go.Proofs.Ythnlkahgmbadoaa
