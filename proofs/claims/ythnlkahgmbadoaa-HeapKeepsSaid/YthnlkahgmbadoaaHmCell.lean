/- Heap: Cell, Load, Proto, Has, Used, Max, on the abstract machine. -/
import Derived.Test.YthnlkahgmbadoaaHmAdd3
namespace Go.Proofs.Ythnlkahgmbadoaa
open Go.RowKit
set_option linter.unusedSimpArgs false
set_option linter.unusedVariables false
set_option maxRecDepth 100000

theorem cut_has (a b c d e f g h i j k : Value) : cut [a, b, c, d, e, f, g, h, i, j, k] 8 2 = some [i, j] := rfl
theorem cut_meta (a b c d e f g h i j k : Value) : cut [a, b, c, d, e, f, g, h, i, j, k] 4 2 = some [e, f] := rfl
theorem found_in {hs : HS} {v : VV} {ob : Ob} (h : findO hs v = some ob) : (v.2, ob) ∈ hs.objs ∧ ob.kind = v.1 := by
  unfold findO at h
  split at h
  · split at h
    · rename_i ob1 h1
      split at h
      · rename_i hk
        cases h
        exact ⟨look_mem h1, hk⟩
      · cases h
    · cases h
  · cases h
def cellOb (v : VV) : Ob := ⟨9, 0, ⟨#[]⟩, [], (0, 0), 0, [], v⟩
def cellO (hs : HS) (v : VV) : HS × VV × Int := if keepO hs v = true then addO hs (cellOb v) 1 else (hs, (0, 0), 150)
/-- the object of a value, if it is of a kind -/
def ofO (hs : HS) (v : VV) (k : Int) : Option Ob := if v.1 = k then findO hs v else none
def loadO (hs : HS) (v : VV) : VV := match ofO hs v 9 with
  | some ob => ob.has
  | none => (0, 0)
section
variable {O : Helps} {n : Nat} {o : Tr AObj} {nx : Nat} {lg : List Nat} {w : Nat → Nat} {B : HB} {hs : HS}
theorem HeapIn.rightF (hO : Clear O) (h : HeapIn o nx w B hs) : ∀ (o' : Tr AObj) (nx' : Nat) (lg : List Nat), o'.get B.i = o.get B.i → oCall Try.prog [] O (n + 1) 22 [.pointer (some ⟨B.i, 0, none⟩)] ⟨o', nx', lg⟩ = some (.bool true, ⟨o', nx', lg⟩) := by
  intro o' nx' lg e
  obtain ⟨z, hr⟩ := h.row
  exact hright_ok hO _ _ _ (e.trans hr)
theorem more2 (h : HeapIn o nx w B hs) (X Y : Option AObj) (q : Nat) (hq : 1 ≤ q) : HeapIn ((o.put nx X).put (nx + 1) Y) (nx + q) w B hs := h.more (by omega) fun x hx => by rw [qF _ _ _ _ (by omega), qF _ _ _ _ (by omega)]
theorem more1 (h : HeapIn o nx w B hs) (X : Option AObj) (q : Nat) : HeapIn (o.put nx X) (nx + q) w B hs := h.more (by omega) fun x hx => qF _ _ _ _ (by omega)
theorem hto_end (h : HeapIn o nx w B hs) {o2 : Tr AObj} {nx2 : Nat} {l : List Nat} {v : Value} {hs' : HS} {w' : Nat → Nat} {B' : HB} (hv : lowV nx v = true) (hH : HeapIn o2 nx2 w' B' hs') (hn : nx ≤ nx2) (hB : B'.i = B.i) (hfr : ∀ x, x < nx → w x = 0 → o2.get x = o.get x ∧ w' x = 0)
    (hl : (∃ x, x ∈ l ∧ w x ≠ 0) ∨ (hs' = hs ∧ l.all (fun i => Nat.ble nx i) = true)) : HTo o nx lg w B hs hs' v (leave ⟨o, nx, lg⟩ v ⟨o2, nx2, l⟩) := by
  rcases hl with ⟨x, hx, hwx⟩ | ⟨rfl, hq⟩
  · exact loud_end hx (h.wlt x hwx) fun l' hmo hin => ⟨_, _, _, w', B', rfl, hn, hH, hB, hfr, hmo, .inl ⟨x, hin x hx (h.wlt x hwx), hwx⟩⟩
  · exact quiet_end hq hv (.same h _)
set_option maxHeartbeats 16000000 in
theorem cell_ok (hO : Clear O) (h : HeapIn o nx w B hs) (hG : HGood hs) (v : VV) (hc : hs.pool.count < 65536) (hmade : hs.made < 4611686018427387904) (hn : hs.pool.sizes.length < n) :
    Got (oCall Try.prog [] O (n + 5) 11 [.pointer (some ⟨B.i, 0, none⟩), .agg #[.int .u8 v.1, .int .i64 v.2]] ⟨o, nx, lg⟩) (HTo o nx lg w B hs (cellO hs v).1 (.tuple #[vv (cellO hs v).2.1, .int .i64 (cellO hs v).2.2])) := by
  obtain ⟨z, hr⟩ := h.row
  have hi := h.lt
  have hright := hright_ok (n := n + 3) (i := B.i) (m := B.ma) (p := B.p) (c0 := .int .i64 hs.max) (c3 := .map (some B.mt)) (c4 := .int .i64 hs.made) (c5 := .bool hs.watch) (c6 := .map (some B.mn)) (e := 64) (z := z) (own := true) hO
  have hkeep := fun (X Y : AObj) (q : Nat) (lg : List Nat) => keep_ok (n := n + 1) (lg := lg) hO (more2 h (some X) (some Y) (q + 1) (by omega)) v
  unfold cellO
  rw [y_fn (rs := [.cell 4 30, .tmp 5]) (hO _ (by decide)) Try.func11 rfl (by kernel_rfl) rfl rfl]
  cases hk : keepO hs v with
  | false =>
    rw [hk] at hkeep
    simp only [Bool.false_eq_true, if_false]
    repeat (first | with_reducible (first | refine n_on ?_ | refine n_seq ?_ | refine s_else ?_ | refine n_t ?_ | refine n_gt ?_ | refine d_t ?_ | refine n_nil ?_ | refine d_nil ?_ | refine n_block ?_ | refine n_skip ?_ | refine n_bon ?_ | refine n_bback ?_ | refine n_back ?_ | refine n_out ?_ | refine n_bout rfl ?_ | refine n_bfar rfl ?_ | refine n_ret ?_ | refine n_exit ?_ | refine n_label ?_ | refine n_scope ?_ | refine n_son ?_ | refine n_sback ?_) | (with_reducible (first | apply n_region | apply d_region); (simp only [JV, JU, JW, Nat.reduceAdd, Nat.zero_add]; exact rfl)) | (with_reducible (first | apply s_op | apply n_guard | apply n_cond | apply d_guard | apply d_op | apply n_fin | apply n_finb); (simp (maxDischargeDepth := 6) only [sy3.1, zY, qG, qP, qQ, qR, qS, qT, rowAt, ↓jg, ↓ji, Nat.reduceAdd, Nat.reduceEqDiff, ne_eq, jG, Nat.reduceLT, if_true, ite_true, Int.reduceLE, Int.reduceLT, Int.reduceEq, Int.reduceNeg, Int.reduceAdd, Nat.reduceSub, if_false, ite_false, fs_11.1, heapRow, hr, hi, hright, hkeep, kind_pure, kind_load, kind_fresh, kind_other, jg, ji, undef]; first | exact rfl | exact ⟨rfl, rfl, rfl, rfl⟩); try (with_reducible refine calmK_in ?_; decide +kernel)))
    exact quiet_end (by simp only [all_relogL, js, ju, List.all_nil, jt, Bool.and_self]) (by rfl) (.same h _)
  | true =>
    rw [hk] at hkeep
    simp only [if_true]
    repeat (first | with_reducible (first | refine n_on ?_ | refine n_seq ?_ | refine s_else ?_ | refine n_t ?_ | refine n_gt ?_ | refine d_t ?_ | refine n_nil ?_ | refine d_nil ?_ | refine n_block ?_ | refine n_skip ?_ | refine n_bon ?_ | refine n_bback ?_ | refine n_back ?_ | refine n_out ?_ | refine n_bout rfl ?_ | refine n_bfar rfl ?_ | refine n_ret ?_ | refine n_exit ?_ | refine n_label ?_ | refine n_scope ?_ | refine n_son ?_ | refine n_sback ?_) | (with_reducible (first | apply n_region | apply d_region); (simp only [JV, JU, JW, Nat.reduceAdd, Nat.zero_add]; exact rfl)) | (with_reducible (first | apply s_op | apply n_guard | apply n_cond | apply d_guard | apply d_op | apply n_fin | apply n_finb); (simp (maxDischargeDepth := 6) only [sy3.1, zY, qG, qP, qQ, qR, qS, qT, rowAt, ↓jg, ↓ji, Nat.reduceAdd, Nat.reduceEqDiff, ne_eq, jG, Nat.reduceLT, if_true, ite_true, Int.reduceLE, Int.reduceLT, Int.reduceEq, Int.reduceNeg, Int.reduceAdd, Nat.reduceSub, if_false, ite_false, fs_11.1, heapRow, hr, hi, hright, hkeep, kind_pure, kind_load, kind_fresh, kind_other, jg, ji, undef]; first | exact rfl | exact ⟨rfl, rfl, rfl, rfl⟩); try (with_reducible refine calmK_in ?_; decide +kernel)))
    have h15 : HeapIn (((o.put nx (some (.row [.int .u8 v.1, .int .i64 v.2] 30 0 true))).put (nx + 1) (some (.row [.int .u8 0, .int .i64 0] 30 0 true))).put (nx + 15) (some (.row (obRow (cellOb v) none none none 0) 72 0 true))) (nx + 21) w B hs := h.more (by omega) fun x hx => by (repeat (first | rw [qE] | rw [qF _ _ _ _ (by omega)]))
    obtain ⟨w1, hw1e⟩ : ∃ w1 : Nat → Nat, w1 = fun x => if x = nx + 15 then 8 + 5 * (takeP hs.pool 1).2.1.toNat else w x := ⟨_, rfl⟩
    have hwnx : ∀ x, nx ≤ x → w x = 0 := fun x hx => by
      by_cases e : w x = 0
      · exact e
      · have := h.wlt x e; omega
    have hw1o : ∀ x, x ≠ nx + 15 → w1 x = w x := fun x hx => by rw [hw1e]; simp only [hx, if_false]
    refine s_do _ (by
      simp (maxDischargeDepth := 6) only [sy3.1, zY, qG, qP, qQ, qR, qS, qT, rowAt, ↓jg, ↓ji, Nat.reduceAdd, Nat.reduceEqDiff, ne_eq, jG, Nat.reduceLT, if_true, ite_true, Int.reduceLE, Int.reduceLT, Int.reduceEq, Int.reduceNeg, Int.reduceAdd, Nat.reduceSub, if_false, ite_false, fs_11.1]
      refine add_ok (w1 := w1) (ob := cellOb v) hO h15 hG (fun x hx => hw1o x fun e => hx (by rw [e]; exact hwnx _ (by omega))) (fun x hx => ?_) (by decide) (by decide) hc hmade (hwnx _ (by omega)) (fun _ => ⟨by omega, by rw [hw1e]; simp only [if_true], none, none, none, 0, 0, qE _ _ _, .inl ⟨rfl, rfl⟩, .inl rfl, fun q e => (by cases e), fun e => (by cases e)⟩) hn
      by_cases e : x = nx + 15
      · omega
      · rw [hw1o x e] at hx; have := h.wlt x hx; omega) ?_
    rintro v1 H1 ⟨o1, nx1, lg1, w', B', heq, hn1, hH1, hB, hfr, hmo, hl⟩
    cases heq
    have hr4 : o1.get (nx + 1) = some (.row [.int .u8 0, .int .i64 0] 30 0 true) := by
      rw [(hfr (nx + 1) (by omega) (by rw [hw1o _ (by omega)]; exact hwnx _ (by omega))).1]; (repeat (first | rw [qE] | rw [qF _ _ _ _ (by omega)]))
    repeat (first | with_reducible (first | refine n_on ?_ | refine n_seq ?_ | refine s_else ?_ | refine n_t ?_ | refine n_gt ?_ | refine d_t ?_ | refine n_nil ?_ | refine d_nil ?_ | refine n_block ?_ | refine n_skip ?_ | refine n_bon ?_ | refine n_bback ?_ | refine n_back ?_ | refine n_out ?_ | refine n_bout rfl ?_ | refine n_bfar rfl ?_ | refine n_ret ?_ | refine n_exit ?_ | refine n_label ?_ | refine n_scope ?_ | refine n_son ?_ | refine n_sback ?_) | (with_reducible (first | apply n_region | apply d_region); (simp only [JV, JU, JW, Nat.reduceAdd, Nat.zero_add]; exact rfl)) | (with_reducible (first | apply s_op | apply n_guard | apply n_cond | apply d_guard | apply d_op | apply n_fin | apply n_finb); (simp (maxDischargeDepth := 6) only [sy3.1, zY, qG, qP, qQ, qR, qS, qT, rowAt, ↓jg, ↓ji, Nat.reduceAdd, Nat.reduceEqDiff, ne_eq, jG, Nat.reduceLT, if_true, ite_true, Int.reduceLE, Int.reduceLT, Int.reduceEq, Int.reduceNeg, Int.reduceAdd, Nat.reduceSub, if_false, ite_false, fs_11.1, hr4, vv, kind_pure, kind_load, kind_fresh, kind_other, jg, ji, undef]; first | exact rfl | exact ⟨rfl, rfl, rfl, rfl⟩); try (with_reducible refine calmK_in ?_; decide +kernel)))
    have hwf : w' (nx + 1) = 0 := (hfr (nx + 1) (by omega) (by rw [hw1o _ (by omega)]; exact hwnx _ (by omega))).2
    refine hto_end h (w' := w') (B' := B') (by rfl) (hH1.keep (by omega) (fun x hx => by have := hH1.wlt x hx; omega) fun x hx => ⟨?_, rfl⟩) (by omega) hB (fun x hx hw0 => ?_) ?_
    · have : x ≠ nx + 1 := fun e => hx (by rw [e]; exact hwf)
      (repeat (first | rw [qE] | rw [qF _ _ _ _ (by omega)]))
    · have := hfr x (by omega) (by rw [hw1o x (by omega)]; exact hw0)
      refine ⟨?_, this.2⟩
      (repeat (first | rw [qE] | rw [qF _ _ _ _ (by omega)]))
      rw [this.1]
      (repeat (first | rw [qE] | rw [qF _ _ _ _ (by omega)]))
    · rcases hl with ⟨x, hx, hw⟩ | ⟨_, _, rfl, _, _, e⟩
      · exact .inl ⟨x, by simp only [in_note, hx, or_true], hw⟩
      · exact .inr ⟨e, by simp only [all_relogL, js, ju, List.all_nil, jt, Bool.and_self]⟩
set_option maxHeartbeats 16000000 in
theorem load_ok (hO : Clear O) (h : HeapIn o nx w B hs) (v : VV) : oCall Try.prog [] O (n + 4) 16 [.pointer (some ⟨B.i, 0, none⟩), .agg #[.int .u8 v.1, .int .i64 v.2]] ⟨o, nx, lg⟩ = some (vv (loadO hs v), ⟨o, nx, lg⟩) := by
  refine of_got ?_
  have hof := fun (X Y : AObj) (q : Nat) (lg : List Nat) => of_ok (n := n) (lg := lg) hO (more2 h (some X) (some Y) (q + 1) (by omega)) v 9
  unfold loadO ofO
  rw [y_fn (rs := [.cell 4 30]) (hO _ (by decide)) Try.func16 rfl (by kernel_rfl) rfl rfl]
  by_cases h9 : v.1 = 9
  · rw [if_pos h9] at hof ⊢
    unfold foundV at hof
    cases hf : findO hs v with
    | none =>
      rw [hf] at hof
      repeat (first | with_reducible (first | refine n_on ?_ | refine n_seq ?_ | refine s_else ?_ | refine n_t ?_ | refine n_gt ?_ | refine d_t ?_ | refine n_nil ?_ | refine d_nil ?_ | refine n_block ?_ | refine n_skip ?_ | refine n_bon ?_ | refine n_bback ?_ | refine n_back ?_ | refine n_out ?_ | refine n_bout rfl ?_ | refine n_bfar rfl ?_ | refine n_ret ?_ | refine n_exit ?_ | refine n_label ?_ | refine n_scope ?_ | refine n_son ?_ | refine n_sback ?_) | (with_reducible (first | apply n_region | apply d_region); (simp only [JV, JU, JW, Nat.reduceAdd, Nat.zero_add]; exact rfl)) | (with_reducible (first | apply s_op | apply n_guard | apply n_cond | apply d_guard | apply d_op | apply n_fin | apply n_finb); (simp (maxDischargeDepth := 6) only [sy3.1, zY, qG, qP, qQ, qR, qS, qT, rowAt, ↓jg, ↓ji, Nat.reduceAdd, Nat.reduceEqDiff, ne_eq, jG, Nat.reduceLT, if_true, ite_true, Int.reduceLE, Int.reduceLT, Int.reduceEq, Int.reduceNeg, Int.reduceAdd, Nat.reduceSub, if_false, ite_false, fs_16.1, hof, ptr0_neq, kind_pure, kind_load, kind_fresh, kind_other, jg, ji, undef]; first | exact rfl | exact ⟨rfl, rfl, rfl, rfl⟩); try (with_reducible refine calmK_in ?_; decide +kernel)))
      try exact Ja (by simp only [all_relogL, js, ju, List.all_nil, jt, Bool.and_self]) (by rfl)
    | some ob =>
      rw [hf] at hof
      obtain ⟨hm, hkd⟩ := found_in hf
      have hob := h.obs _ hm
      obtain ⟨tp, sp, ca, cc, zz, hro, _⟩ := hob.ex
      have hbl := hob.lt
      simp only at hro hbl
      repeat (first | with_reducible (first | refine n_on ?_ | refine n_seq ?_ | refine s_else ?_ | refine n_t ?_ | refine n_gt ?_ | refine d_t ?_ | refine n_nil ?_ | refine d_nil ?_ | refine n_block ?_ | refine n_skip ?_ | refine n_bon ?_ | refine n_bback ?_ | refine n_back ?_ | refine n_out ?_ | refine n_bout rfl ?_ | refine n_bfar rfl ?_ | refine n_ret ?_ | refine n_exit ?_ | refine n_label ?_ | refine n_scope ?_ | refine n_son ?_ | refine n_sback ?_) | (with_reducible (first | apply n_region | apply d_region); (simp only [JV, JU, JW, Nat.reduceAdd, Nat.zero_add]; exact rfl)) | (with_reducible (first | apply s_op | apply n_guard | apply n_cond | apply d_guard | apply d_op | apply n_fin | apply n_finb); (simp (maxDischargeDepth := 6) only [sy3.1, zY, qG, qP, qQ, qR, qS, qT, rowAt, ↓jg, ↓ji, Nat.reduceAdd, Nat.reduceEqDiff, ne_eq, jG, Nat.reduceLT, if_true, ite_true, Int.reduceLE, Int.reduceLT, Int.reduceEq, Int.reduceNeg, Int.reduceAdd, Nat.reduceSub, if_false, ite_false, fs_16.1, obRow, hof, hro, hbl, cut_has, kind_pure, kind_load, kind_fresh, kind_other, jg, ji, undef]; first | exact rfl | exact ⟨rfl, rfl, rfl, rfl⟩); try (with_reducible refine calmK_in ?_; decide +kernel)))
      try exact Ja (by simp only [all_relogL, js, ju, List.all_nil, jt, Bool.and_self]) (by rfl)
  · rw [if_neg h9] at hof ⊢
    repeat (first | with_reducible (first | refine n_on ?_ | refine n_seq ?_ | refine s_else ?_ | refine n_t ?_ | refine n_gt ?_ | refine d_t ?_ | refine n_nil ?_ | refine d_nil ?_ | refine n_block ?_ | refine n_skip ?_ | refine n_bon ?_ | refine n_bback ?_ | refine n_back ?_ | refine n_out ?_ | refine n_bout rfl ?_ | refine n_bfar rfl ?_ | refine n_ret ?_ | refine n_exit ?_ | refine n_label ?_ | refine n_scope ?_ | refine n_son ?_ | refine n_sback ?_) | (with_reducible (first | apply n_region | apply d_region); (simp only [JV, JU, JW, Nat.reduceAdd, Nat.zero_add]; exact rfl)) | (with_reducible (first | apply s_op | apply n_guard | apply n_cond | apply d_guard | apply d_op | apply n_fin | apply n_finb); (simp (maxDischargeDepth := 6) only [sy3.1, zY, qG, qP, qQ, qR, qS, qT, rowAt, ↓jg, ↓ji, Nat.reduceAdd, Nat.reduceEqDiff, ne_eq, jG, Nat.reduceLT, if_true, ite_true, Int.reduceLE, Int.reduceLT, Int.reduceEq, Int.reduceNeg, Int.reduceAdd, Nat.reduceSub, if_false, ite_false, fs_16.1, hof, ptr0_neq, kind_pure, kind_load, kind_fresh, kind_other, jg, ji, undef]; first | exact rfl | exact ⟨rfl, rfl, rfl, rfl⟩); try (with_reducible refine calmK_in ?_; decide +kernel)))
    try exact Ja (by simp only [all_relogL, js, ju, List.all_nil, jt, Bool.and_self]) (by rfl)
end
end Go.Proofs.Ythnlkahgmbadoaa
