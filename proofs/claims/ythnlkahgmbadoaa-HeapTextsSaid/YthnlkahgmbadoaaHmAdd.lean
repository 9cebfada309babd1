/- Heap: add, and what it stands on, on the abstract machine. -/
import Derived.Test.YthnlkahgmbadoaaHmGet
namespace Go.Proofs.Ythnlkahgmbadoaa
open Go.RowKit
set_option linter.unusedSimpArgs false
set_option linter.unusedVariables false
set_option maxRecDepth 100000

/-! ### a map's key is given a value, or is struck -/
def putK {K : Type} [DecidableEq K] (x : K) (v : Value) (kv : List (K × Value)) : List (K × Value) := match findK x kv 0 with
  | some (j, _) => kv.set j (x, v)
  | none => kv ++ [(x, v)]
theorem map_put {P : Program} {t mt el : TypeId} {K : Type} [DecidableEq K] {f : K → Value} (h : KeyBy P t f) (hm : P.underlying mt = some (.map t el)) {es : List MapEntry} {kv : List (K × Value)} (hi : MapIs f es kv) (i c : Nat) (x : K) (v : Value) :
    ∃ es' c', (∀ (o : Tr AObj) (nx : Nat) (lg : List Nat), o.get i = some (.map es c) → aMapUpdate P mt (.map (some i)) (f x) v ⟨o, nx, lg⟩ = some ⟨o.put i (some (.map es' c')), nx, noteId i lg⟩) ∧ MapIs f es' (putK x v kv) := by
  unfold putK
  cases hn : findK x kv 0 with
  | none =>
    refine ⟨es ++ [{ key := f x, val := v, born := c }], c + 1, fun o nx lg hg => ?_, hi.snoc x v c⟩
    rw [mapUpdate_add h hm (H := ⟨o, nx, lg⟩) hg hi x v hn]; rfl
  | some r =>
    obtain ⟨j, u⟩ := r
    obtain ⟨k, hk, hx⟩ := findK_get x kv 0 j u hn
    rw [Nat.zero_add] at hk
    subst hk
    have hj : j < kv.length := (List.getElem?_eq_some_iff.1 hx).1
    have hje : j < es.length := by rw [hi.len]; exact hj
    have hkey : (es[j]).key = f x := by
      have h1 := congrArg (fun l : List (Value × Value) => l[j]?) hi
      simp only [List.getElem?_map, hx, Option.map_some, List.getElem?_eq_getElem hje, Option.some.injEq, Prod.mk.injEq] at h1
      exact h1.1
    refine ⟨es.set j { key := f x, val := v, born := (es[j]).born }, c, fun o nx lg hg => ?_, ?_⟩
    · simp only [aMapUpdate, hm, h.flat, cond, qH, hg, h.chk, findKey_by h x hi, hn, List.getElem?_eq_getElem hje, hkey, h.bits]; rfl
    · unfold MapIs at hi ⊢
      simp only
      rw [List.map_set, List.map_set, hi]
section
variable {O : Helps} {n : Nat} {o : Tr AObj} {nx : Nat} {lg : List Nat} {w : Nat → Nat} {B : HB} {hs : HS}
set_option maxHeartbeats 4000000 in
theorem of_ok (hO : Clear O) (h : HeapIn o nx w B hs) (v : VV) (k : Int) : oCall Try.prog [] O (n + 3) 25 [.pointer (some ⟨B.i, 0, none⟩), .agg #[.int .u8 v.1, .int .i64 v.2], .int .u8 k] ⟨o, nx, lg⟩ = some (if v.1 = k then foundV B hs v else .pointer none, ⟨o, nx, lg⟩) := by
  refine of_got ?_
  have hf2 := fun (X : AObj) (q : Nat) (lg : List Nat) => find_ok (n := n) (o := o.put nx (some X)) (nx := nx + q) (lg := lg) hO (h.more (by omega) fun x hx => qF _ _ _ _ (by omega)) v
  rw [y_fn (rs := [.tmp 6]) (hO _ (by decide)) Try.func25 rfl (by kernel_rfl) rfl rfl]
  by_cases hk : v.1 = k
  · rw [if_pos hk]
    have hlow : lowV nx (foundV B hs v) = true := by
      unfold foundV
      cases hfo : findO hs v with
      | none => rfl
      | some ob =>
        unfold findO at hfo
        split at hfo
        · split at hfo
          · rename_i ob1 h1
            have := (h.obs _ (look_mem h1)).lt
            show Nat.blt _ _ = true
            rw [Nat.blt_eq]; exact this
          · cases hfo
        · cases hfo
    generalize hfv : foundV B hs v = fv at hf2 hlow ⊢
    repeat (first | with_reducible (first | refine n_on ?_ | refine n_seq ?_ | refine s_else ?_ | refine n_t ?_ | refine n_gt ?_ | refine d_t ?_ | refine n_nil ?_ | refine d_nil ?_ | refine n_block ?_ | refine n_skip ?_ | refine n_bon ?_ | refine n_bback ?_ | refine n_back ?_ | refine n_out ?_ | refine n_bout rfl ?_ | refine n_bfar rfl ?_ | refine n_ret ?_ | refine n_exit ?_ | refine n_label ?_ | refine n_scope ?_ | refine n_son ?_ | refine n_sback ?_) | (with_reducible (first | apply n_region | apply d_region); (simp only [JV, JU, JW, Nat.reduceAdd, Nat.zero_add]; exact rfl)) | (with_reducible (first | apply s_op | apply n_guard | apply n_cond | apply d_guard | apply d_op | apply n_fin | apply n_finb); (simp (maxDischargeDepth := 6) only [sy3.1, zY, qG, qP, qQ, qR, qS, qT, rowAt, ↓jg, ↓ji, Nat.reduceAdd, Nat.reduceEqDiff, ne_eq, jG, Nat.reduceLT, if_true, ite_true, Int.reduceLE, Int.reduceLT, Int.reduceEq, Int.reduceNeg, Int.reduceAdd, Nat.reduceSub, if_false, ite_false, fs_25.1, hf2, decide_eq_true hk, kind_pure, kind_load, kind_fresh, kind_other, jg, ji, undef]; first | exact rfl | exact ⟨rfl, rfl, rfl, rfl⟩); try (with_reducible refine calmK_in ?_; decide +kernel)))
    try exact Ja (by rfl) hlow
  · rw [if_neg hk]
    repeat (first | with_reducible (first | refine n_on ?_ | refine n_seq ?_ | refine s_else ?_ | refine n_t ?_ | refine n_gt ?_ | refine d_t ?_ | refine n_nil ?_ | refine d_nil ?_ | refine n_block ?_ | refine n_skip ?_ | refine n_bon ?_ | refine n_bback ?_ | refine n_back ?_ | refine n_out ?_ | refine n_bout rfl ?_ | refine n_bfar rfl ?_ | refine n_ret ?_ | refine n_exit ?_ | refine n_label ?_ | refine n_scope ?_ | refine n_son ?_ | refine n_sback ?_) | (with_reducible (first | apply n_region | apply d_region); (simp only [JV, JU, JW, Nat.reduceAdd, Nat.zero_add]; exact rfl)) | (with_reducible (first | apply s_op | apply n_guard | apply n_cond | apply d_guard | apply d_op | apply n_fin | apply n_finb); (simp (maxDischargeDepth := 6) only [sy3.1, zY, qG, qP, qQ, qR, qS, qT, rowAt, ↓jg, ↓ji, Nat.reduceAdd, Nat.reduceEqDiff, ne_eq, jG, Nat.reduceLT, if_true, ite_true, Int.reduceLE, Int.reduceLT, Int.reduceEq, Int.reduceNeg, Int.reduceAdd, Nat.reduceSub, if_false, ite_false, fs_25.1, hf2, decide_eq_false hk, kind_pure, kind_load, kind_fresh, kind_other, jg, ji, undef]; first | exact rfl | exact ⟨rfl, rfl, rfl, rfl⟩); try (with_reducible refine calmK_in ?_; decide +kernel)))
    try exact Ja (by rfl) (by rfl)
theorem found_neq (B : HB) (hs : HS) (v : VV) : binV Try.prog .neq 68 false true (foundV B hs v) (.pointer none) = some (.bool (findO hs v).isSome) := by
  unfold foundV
  cases findO hs v with
  | none => exact ptr0_neq
  | some ob => exact b_neq_ptr Try.underlying68
theorem found_eql (B : HB) (hs : HS) (v : VV) : binV Try.prog .eql 68 false true (foundV B hs v) (.pointer none) = some (.bool !(findO hs v).isSome) := by
  unfold foundV
  cases findO hs v with
  | none => exact ptr0_eql
  | some ob => exact b_eql_ptr Try.underlying68
set_option maxHeartbeats 8000000 in
theorem keep_ok (hO : Clear O) (h : HeapIn o nx w B hs) (v : VV) : oCall Try.prog [] O (n + 3) 31 [.pointer (some ⟨B.i, 0, none⟩), .agg #[.int .u8 v.1, .int .i64 v.2]] ⟨o, nx, lg⟩ = some (.bool (keepO hs v), ⟨o, nx, lg⟩) := by
  refine of_got ?_
  have hf2 := fun (X : AObj) (q : Nat) (lg : List Nat) => find_ok (n := n) (o := o.put nx (some X)) (nx := nx + q) (lg := lg) hO (h.more (by omega) fun x hx => qF _ _ _ _ (by omega)) v
  have hh := holds_ok (n := n + 1) hO v
  have hfn := found_neq B hs v
  generalize hfv : foundV B hs v = fv at hf2 hfn
  rw [y_fn (rs := [.tmp 4]) (hO _ (by decide)) Try.func31 rfl (by kernel_rfl) rfl rfl]
  have tail : ∀ b, holdsK v.1 = b → True := fun _ _ => trivial
  by_cases h8 : 8 < v.1
  · have hk : keepO hs v = false := by unfold keepO; rw [if_pos (.inl h8)]
    rw [hk]
    repeat (first | with_reducible (first | refine n_on ?_ | refine n_seq ?_ | refine s_else ?_ | refine n_t ?_ | refine n_gt ?_ | refine d_t ?_ | refine n_nil ?_ | refine d_nil ?_ | refine n_block ?_ | refine n_skip ?_ | refine n_bon ?_ | refine n_bback ?_ | refine n_back ?_ | refine n_out ?_ | refine n_bout rfl ?_ | refine n_bfar rfl ?_ | refine n_ret ?_ | refine n_exit ?_ | refine n_label ?_ | refine n_scope ?_ | refine n_son ?_ | refine n_sback ?_) | (with_reducible (first | apply n_region | apply d_region); (simp only [JV, JU, JW, Nat.reduceAdd, Nat.zero_add]; exact rfl)) | (with_reducible (first | apply s_op | apply n_guard | apply n_cond | apply d_guard | apply d_op | apply n_fin | apply n_finb); (simp (maxDischargeDepth := 6) only [sy3.1, zY, qG, qP, qQ, qR, qS, qT, rowAt, ↓jg, ↓ji, Nat.reduceAdd, Nat.reduceEqDiff, ne_eq, jG, Nat.reduceLT, if_true, ite_true, Int.reduceLE, Int.reduceLT, Int.reduceEq, Int.reduceNeg, Int.reduceAdd, Nat.reduceSub, if_false, ite_false, fs_31.1, decide_eq_true h8, kind_pure, kind_load, kind_fresh, kind_other, jg, ji, undef]; first | exact rfl | exact ⟨rfl, rfl, rfl, rfl⟩); try (with_reducible refine calmK_in ?_; decide +kernel)))
    try exact Ja (by rfl) (by rfl)
  by_cases h2 : v.1 ≤ 2
  · by_cases h0 : v.2 = 0
    · have hn : ¬ (8 < v.1 ∨ v.1 ≤ 2 ∧ v.2 ≠ 0) := fun h => h.elim h8 fun h => h.2 h0
      have hk1 : holdsK v.1 = false := by unfold holdsK; rw [decide_eq_false (p := 4 ≤ v.1) (by omega), decide_eq_false (p := v.1 = 8) (by omega), decide_eq_false (p := v.1 = 9) (by omega)]; rfl
      have hk : keepO hs v = true := by unfold keepO; rw [if_neg hn, hk1]; rfl
      rw [hk1] at hh
      rw [hk]
      repeat (first | with_reducible (first | refine n_on ?_ | refine n_seq ?_ | refine s_else ?_ | refine n_t ?_ | refine n_gt ?_ | refine d_t ?_ | refine n_nil ?_ | refine d_nil ?_ | refine n_block ?_ | refine n_skip ?_ | refine n_bon ?_ | refine n_bback ?_ | refine n_back ?_ | refine n_out ?_ | refine n_bout rfl ?_ | refine n_bfar rfl ?_ | refine n_ret ?_ | refine n_exit ?_ | refine n_label ?_ | refine n_scope ?_ | refine n_son ?_ | refine n_sback ?_) | (with_reducible (first | apply n_region | apply d_region); (simp only [JV, JU, JW, Nat.reduceAdd, Nat.zero_add]; exact rfl)) | (with_reducible (first | apply s_op | apply n_guard | apply n_cond | apply d_guard | apply d_op | apply n_fin | apply n_finb); (simp (maxDischargeDepth := 6) only [sy3.1, zY, qG, qP, qQ, qR, qS, qT, rowAt, ↓jg, ↓ji, Nat.reduceAdd, Nat.reduceEqDiff, ne_eq, jG, Nat.reduceLT, if_true, ite_true, Int.reduceLE, Int.reduceLT, Int.reduceEq, Int.reduceNeg, Int.reduceAdd, Nat.reduceSub, if_false, ite_false, fs_31.1, hh, decide_eq_false h8, decide_eq_true h2, decide_eq_true h0, kind_pure, kind_load, kind_fresh, kind_other, jg, ji, undef]; first | exact rfl | exact ⟨rfl, rfl, rfl, rfl⟩); try (with_reducible refine calmK_in ?_; decide +kernel)))
      try exact Ja (by rfl) (by rfl)
    · have hk : keepO hs v = false := by unfold keepO; rw [if_pos (.inr ⟨h2, h0⟩)]
      rw [hk]
      repeat (first | with_reducible (first | refine n_on ?_ | refine n_seq ?_ | refine s_else ?_ | refine n_t ?_ | refine n_gt ?_ | refine d_t ?_ | refine n_nil ?_ | refine d_nil ?_ | refine n_block ?_ | refine n_skip ?_ | refine n_bon ?_ | refine n_bback ?_ | refine n_back ?_ | refine n_out ?_ | refine n_bout rfl ?_ | refine n_bfar rfl ?_ | refine n_ret ?_ | refine n_exit ?_ | refine n_label ?_ | refine n_scope ?_ | refine n_son ?_ | refine n_sback ?_) | (with_reducible (first | apply n_region | apply d_region); (simp only [JV, JU, JW, Nat.reduceAdd, Nat.zero_add]; exact rfl)) | (with_reducible (first | apply s_op | apply n_guard | apply n_cond | apply d_guard | apply d_op | apply n_fin | apply n_finb); (simp (maxDischargeDepth := 6) only [sy3.1, zY, qG, qP, qQ, qR, qS, qT, rowAt, ↓jg, ↓ji, Nat.reduceAdd, Nat.reduceEqDiff, ne_eq, jG, Nat.reduceLT, if_true, ite_true, Int.reduceLE, Int.reduceLT, Int.reduceEq, Int.reduceNeg, Int.reduceAdd, Nat.reduceSub, if_false, ite_false, fs_31.1, hh, decide_eq_false h8, decide_eq_true h2, decide_eq_false h0, kind_pure, kind_load, kind_fresh, kind_other, jg, ji, undef]; first | exact rfl | exact ⟨rfl, rfl, rfl, rfl⟩); try (with_reducible refine calmK_in ?_; decide +kernel)))
      try exact Ja (by rfl) (by rfl)
  · have hn : ¬ (8 < v.1 ∨ v.1 ≤ 2 ∧ v.2 ≠ 0) := fun h => h.elim h8 fun h => h2 h.1
    cases hk1 : holdsK v.1 with
    | false =>
      have hk : keepO hs v = true := by unfold keepO; rw [if_neg hn, hk1]; rfl
      rw [hk1] at hh
      rw [hk]
      repeat (first | with_reducible (first | refine n_on ?_ | refine n_seq ?_ | refine s_else ?_ | refine n_t ?_ | refine n_gt ?_ | refine d_t ?_ | refine n_nil ?_ | refine d_nil ?_ | refine n_block ?_ | refine n_skip ?_ | refine n_bon ?_ | refine n_bback ?_ | refine n_back ?_ | refine n_out ?_ | refine n_bout rfl ?_ | refine n_bfar rfl ?_ | refine n_ret ?_ | refine n_exit ?_ | refine n_label ?_ | refine n_scope ?_ | refine n_son ?_ | refine n_sback ?_) | (with_reducible (first | apply n_region | apply d_region); (simp only [JV, JU, JW, Nat.reduceAdd, Nat.zero_add]; exact rfl)) | (with_reducible (first | apply s_op | apply n_guard | apply n_cond | apply d_guard | apply d_op | apply n_fin | apply n_finb); (simp (maxDischargeDepth := 6) only [sy3.1, zY, qG, qP, qQ, qR, qS, qT, rowAt, ↓jg, ↓ji, Nat.reduceAdd, Nat.reduceEqDiff, ne_eq, jG, Nat.reduceLT, if_true, ite_true, Int.reduceLE, Int.reduceLT, Int.reduceEq, Int.reduceNeg, Int.reduceAdd, Nat.reduceSub, if_false, ite_false, fs_31.1, hh, decide_eq_false h8, decide_eq_false h2, kind_pure, kind_load, kind_fresh, kind_other, jg, ji, undef]; first | exact rfl | exact ⟨rfl, rfl, rfl, rfl⟩); try (with_reducible refine calmK_in ?_; decide +kernel)))
      try exact Ja (by rfl) (by rfl)
    | true =>
      have hk : keepO hs v = (findO hs v).isSome := by unfold keepO; rw [if_neg hn, hk1]; rfl
      rw [hk1] at hh
      rw [hk]
      repeat (first | with_reducible (first | refine n_on ?_ | refine n_seq ?_ | refine s_else ?_ | refine n_t ?_ | refine n_gt ?_ | refine d_t ?_ | refine n_nil ?_ | refine d_nil ?_ | refine n_block ?_ | refine n_skip ?_ | refine n_bon ?_ | refine n_bback ?_ | refine n_back ?_ | refine n_out ?_ | refine n_bout rfl ?_ | refine n_bfar rfl ?_ | refine n_ret ?_ | refine n_exit ?_ | refine n_label ?_ | refine n_scope ?_ | refine n_son ?_ | refine n_sback ?_) | (with_reducible (first | apply n_region | apply d_region); (simp only [JV, JU, JW, Nat.reduceAdd, Nat.zero_add]; exact rfl)) | (with_reducible (first | apply s_op | apply n_guard | apply n_cond | apply d_guard | apply d_op | apply n_fin | apply n_finb); (simp (maxDischargeDepth := 6) only [sy3.1, zY, qG, qP, qQ, qR, qS, qT, rowAt, ↓jg, ↓ji, Nat.reduceAdd, Nat.reduceEqDiff, ne_eq, jG, Nat.reduceLT, if_true, ite_true, Int.reduceLE, Int.reduceLT, Int.reduceEq, Int.reduceNeg, Int.reduceAdd, Nat.reduceSub, if_false, ite_false, fs_31.1, hh, hf2, hfn, decide_eq_false h8, decide_eq_false h2, kind_pure, kind_load, kind_fresh, kind_other, jg, ji, undef]; first | exact rfl | exact ⟨rfl, rfl, rfl, rfl⟩); try (with_reducible refine calmK_in ?_; decide +kernel)))
      try exact Ja (by rfl) (by rfl)
def noteL (hs : HS) (d : Int) : List Int := if hs.watch = true then (if d ∈ hs.noted then hs.noted else hs.noted ++ [d]) else hs.noted
theorem find_mem (d : Int) (f : Int → Value) : ∀ (l : List Int) (i : Nat), (d ∉ l ∧ findK d (l.map fun q => (q, f q)) i = none) ∨ (d ∈ l ∧ ∃ r, findK d (l.map fun q => (q, f q)) i = some (i + r, f d) ∧ l[r]? = some d)
  | [], i => .inl ⟨by simp, rfl⟩
  | q :: l, i => by
    by_cases e : q = d
    · subst e; exact .inr ⟨by simp, 0, by simp [findK], by simp⟩
    · rcases find_mem d f l (i + 1) with ⟨h1, h2⟩ | ⟨h1, r, h2, h3⟩
      · refine .inl ⟨by simp [h1, Ne.symm e], ?_⟩
        simp only [List.map_cons, findK]; rw [if_neg (fun h => e h.symm)]; exact h2
      · refine .inr ⟨by simp [h1], r + 1, ?_, by simpa using h3⟩
        simp only [List.map_cons, findK]; rw [if_neg (fun h => e h.symm), h2, show i + 1 + r = i + (r + 1) from by omega]
theorem put_noted (l : List Int) (d : Int) : putK d (.bool true) (l.map fun q => (q, .bool true)) = (if d ∈ l then l else l ++ [d]).map fun q => (q, .bool true) := by
  unfold putK
  rcases find_mem d (fun _ => .bool true) l 0 with ⟨h1, h2⟩ | ⟨h1, r, h2, h3⟩
  · rw [h2, if_neg h1]; simp
  · rw [h2, if_pos h1]
    simp only [Nat.zero_add]
    refine List.ext_getElem? fun j => ?_
    rw [List.getElem?_set]
    by_cases e : r = j
    · subst e
      have hr := (List.getElem?_eq_some_iff.1 h3).1
      rw [if_pos rfl, if_pos (by simpa using hr), List.getElem?_map, h3]; rfl
    · rw [if_neg e]
/-- what a call that turns the heap leaves -/
def HTo (o : Tr AObj) (nx : Nat) (lg : List Nat) (w : Nat → Nat) (B : HB) (hs hs' : HS) (v : Value) (r : Value × AHeap) : Prop :=
  ∃ o' nx' lg' w' B', r = (v, ⟨o', nx', lg'⟩) ∧ nx ≤ nx' ∧ HeapIn o' nx' w' B' hs' ∧ B'.i = B.i ∧ (∀ x, x < nx → w x = 0 → o'.get x = o.get x ∧ w' x = 0) ∧ (∀ y, y ∈ lg → y ∈ lg') ∧ ((∃ x, x ∈ lg' ∧ w x ≠ 0) ∨ (o' = o ∧ nx' = nx ∧ lg' = lg ∧ w' = w ∧ B' = B ∧ hs' = hs))
theorem HTo.same (h : HeapIn o nx w B hs) (v : Value) : HTo o nx lg w B hs hs v (v, ⟨o, nx, lg⟩) := ⟨_, _, _, w, B, rfl, Nat.le_refl _, h, rfl, fun _ _ h => ⟨rfl, h⟩, fun _ h => h, .inr ⟨rfl, rfl, rfl, rfl, rfl, rfl⟩⟩
set_option maxHeartbeats 8000000 in
theorem note_ok (hO : Clear O) (h : HeapIn o nx w B hs) (d : Int) : Got (oCall Try.prog [] O (n + 1) 23 [.pointer (some ⟨B.i, 0, none⟩), .int .i64 d] ⟨o, nx, lg⟩) fun r => ∃ o' nx' lg', r = (.tuple #[], ⟨o', nx', lg'⟩) ∧ nx ≤ nx' ∧ HeapIn o' nx' w B { hs with noted := noteL hs d } ∧ (∀ x, x < nx → x ≠ B.mn → o'.get x = o.get x) ∧ ∀ y, y ∈ lg → y ∈ lg' := by
  obtain ⟨z, hr⟩ := h.row
  obtain ⟨es, c, hm, hmap⟩ := h.noted
  have hi := h.lt
  have hmn := h.wlt B.mn (by rw [h.wmn]; decide)
  obtain ⟨es', c', hput, hmap'⟩ := map_put key_int Try.underlying62 hmap B.mn c d (.bool true)
  rw [y_fn (rs := []) (hO _ (by decide)) Try.func23 rfl (by kernel_rfl) rfl rfl]
  by_cases hw : hs.watch = true
  · have e : noteL hs d = if d ∈ hs.noted then hs.noted else hs.noted ++ [d] := by unfold noteL; rw [if_pos hw]
    repeat (first | with_reducible (first | refine n_on ?_ | refine n_seq ?_ | refine s_else ?_ | refine n_t ?_ | refine n_gt ?_ | refine d_t ?_ | refine n_nil ?_ | refine d_nil ?_ | refine n_block ?_ | refine n_skip ?_ | refine n_bon ?_ | refine n_bback ?_ | refine n_back ?_ | refine n_out ?_ | refine n_bout rfl ?_ | refine n_bfar rfl ?_ | refine n_ret ?_ | refine n_exit ?_ | refine n_label ?_ | refine n_scope ?_ | refine n_son ?_ | refine n_sback ?_) | (with_reducible (first | apply n_region | apply d_region); (simp only [JV, JU, JW, Nat.reduceAdd, Nat.zero_add]; exact rfl)) | (with_reducible (first | apply s_op | apply n_guard | apply n_cond | apply d_guard | apply d_op | apply n_fin | apply n_finb); (simp (maxDischargeDepth := 6) only [sy3.1, zY, qG, qP, qQ, qR, qS, qT, rowAt, ↓jg, ↓ji, Nat.reduceAdd, Nat.reduceEqDiff, ne_eq, jG, Nat.reduceLT, if_true, ite_true, Int.reduceLE, Int.reduceLT, Int.reduceEq, Int.reduceNeg, Int.reduceAdd, Nat.reduceSub, if_false, ite_false, fs_23.1, heapRow, hr, hi, hmn, hm, hput, hw, kind_pure, kind_load, kind_fresh, kind_other, jg, ji, undef]; first | exact rfl | exact ⟨rfl, rfl, rfl, rfl⟩); try (with_reducible refine calmK_in ?_; decide +kernel)))
    obtain ⟨l', e2, hmo, _⟩ := leave_log (o := o) (o' := o.put B.mn (some (.map es' c'))) (nx := nx) (nx' := nx + 10) (lg := lg) (l := noteId B.mn []) (v := .tuple #[]) (not_all (x := B.mn) (in_note.2 (.inl rfl)) hmn)
    obtain ⟨esA, cA, hmA, hmapA⟩ := h.all
    obtain ⟨esT, cT, hmT, hmapT⟩ := h.texts
    have hne : ∀ x, w x ≠ 7 → x ≠ B.mn := fun x hx e => hx (by rw [e]; exact h.wmn)
    refine ⟨_, _, _, e2, by omega, ⟨fun x hx => by have := h.wlt x hx; omega, h.wi, h.wp, h.wa, h.wb, h.wma, h.wmt, h.wmn, ⟨z, ?_⟩, h.pool.keep (by omega) ?_, ⟨esA, cA, ?_, hmapA⟩, fun q hq => (h.obs q hq).keep (by omega) fun x hx hob => ⟨?_, rfl⟩, ⟨esT, cT, ?_, hmapT⟩, ⟨es', c', qE _ _ _, ?_⟩⟩, fun x hx hxm => qF _ _ _ _ hxm, hmo⟩
    · rw [qF _ _ _ _ (hne _ (by rw [h.wi]; decide))]; exact hr
    · rintro x (rfl | e3 | e3)
      · exact qF _ _ _ _ (hne _ (by rw [h.wp]; decide))
      · exact qF _ _ _ _ (hne _ (by rw [h.wa x e3]; decide))
      · exact qF _ _ _ _ (hne _ (by rw [h.wb x e3]; decide))
    · rw [qF _ _ _ _ (hne _ (by rw [h.wma]; decide))]; exact hmA
    · exact qF _ _ _ _ (hne _ (by have := hob.1; omega))
    · rw [qF _ _ _ _ (hne _ (by rw [h.wmt]; decide))]; exact hmT
    · rw [e, ← put_noted]; exact hmap'
  · have e : ({ hs with noted := noteL hs d } : HS) = hs := by unfold noteL; rw [if_neg hw]
    rw [Bool.not_eq_true] at hw
    repeat (first | with_reducible (first | refine n_on ?_ | refine n_seq ?_ | refine s_else ?_ | refine n_t ?_ | refine n_gt ?_ | refine d_t ?_ | refine n_nil ?_ | refine d_nil ?_ | refine n_block ?_ | refine n_skip ?_ | refine n_bon ?_ | refine n_bback ?_ | refine n_back ?_ | refine n_out ?_ | refine n_bout rfl ?_ | refine n_bfar rfl ?_ | refine n_ret ?_ | refine n_exit ?_ | refine n_label ?_ | refine n_scope ?_ | refine n_son ?_ | refine n_sback ?_) | (with_reducible (first | apply n_region | apply d_region); (simp only [JV, JU, JW, Nat.reduceAdd, Nat.zero_add]; exact rfl)) | (with_reducible (first | apply s_op | apply n_guard | apply n_cond | apply d_guard | apply d_op | apply n_fin | apply n_finb); (simp (maxDischargeDepth := 6) only [sy3.1, zY, qG, qP, qQ, qR, qS, qT, rowAt, ↓jg, ↓ji, Nat.reduceAdd, Nat.reduceEqDiff, ne_eq, jG, Nat.reduceLT, if_true, ite_true, Int.reduceLE, Int.reduceLT, Int.reduceEq, Int.reduceNeg, Int.reduceAdd, Nat.reduceSub, if_false, ite_false, fs_23.1, heapRow, hr, hi, hw, kind_pure, kind_load, kind_fresh, kind_other, jg, ji, undef]; first | exact rfl | exact ⟨rfl, rfl, rfl, rfl⟩); try (with_reducible refine calmK_in ?_; decide +kernel)))
    exact ⟨_, _, _, Ja (by rfl) (by rfl), Nat.le_refl _, by rw [e]; exact h, fun _ _ _ => rfl, fun _ h => h⟩
end
end Go.Proofs.Ythnlkahgmbadoaa
