/- Heap: lists of values copied; Func, Cells, on the abstract machine. -/
import Derived.Test.YtckahbnkdiamjaaHmStore
namespace Go.Proofs.Ytckahbnkdiamjaa
open Go.RowKit
set_option linter.unusedSimpArgs false
set_option linter.unusedVariables false
set_option maxRecDepth 100000

theorem leave_new {o o' : Tr AObj} {nx nx' : Nat} {lg l : List Nat} {v : Value} (hl : l.all (fun i => Nat.ble nx i) = true) (hv : lowV nx v = false) : leave ⟨o, nx, lg⟩ v ⟨o', nx', l⟩ = (v, ⟨o', nx', lg⟩) := by
  unfold leave
  simp only [hl, hv, Bool.and_false, cond]
  have : (l.filter fun i => Nat.blt i nx) = [] := by
    rw [List.filter_eq_nil_iff]
    intro x hx
    have := List.all_eq_true.1 hl x hx
    rw [Nat.ble_eq] at this
    rw [Nat.blt_eq]; omega
  rw [this]; rfl
/-- a list of values as a slice: where it lies, its capacity's mark -/
def SlOk (a : Option Nat) (l : List VV) (cc : Nat) : Prop := cc = 0 ∨ (cc = 1 ∧ l = [] ∧ a ≠ none)
theorem SlOk.nil0 {a : Option Nat} {l : List VV} {cc : Nat} (h : SlOk a l cc) (e : a = none) : cc = 0 := h.resolve_right fun h => h.2.2 e
theorem vv_len (l : List VV) : (vvCells l).length = l.length * 2 := by
  induction l with
  | nil => rfl
  | cons v l ih => simp only [vvCells, List.flatMap_cons, List.length_append, List.length_cons, List.length_nil] at ih ⊢; omega
theorem vv_cut {l : List VV} {k : Nat} (h : k < l.length) (rest : List Value) : cut (vvCells l ++ rest) (k * 2) 2 = some [.int .u8 (l[k]).1, .int .i64 (l[k]).2] := by
  have e : vvCells l = vvCells (l.take k) ++ ([.int .u8 (l[k]).1, .int .i64 (l[k]).2] ++ vvCells (l.drop (k + 1))) := by
    conv => lhs; rw [← List.take_append_drop k l, List.drop_eq_getElem_cons h]
    simp only [vvCells, List.flatMap_append, List.flatMap_cons]
  refine cut_in rfl (vvCells (l.take k)) (vvCells (l.drop (k + 1)) ++ rest) ?_ ?_
  · rw [vv_len, List.length_take, Nat.min_eq_left (by omega)]
  · rw [e]; simp
theorem app_vv : appOf Try.prog 26 26 = some (41, 2, 16) := by kernel_rfl
theorem build_vv0 : ∀ fid H, buildSliceV Try.prog 26 0 [] fid H = some (.slice (some ⟨fid, 0, none⟩) 0 1, newRowA fid [] 41 2 H) := fun fid H => by kernel_rfl
theorem vapp_row {l : List VV} {j : Nat} {rest : List Value} {cc m : Nat} (hm : l.length = m + 1) (hl : l.length ≤ 1000000) : ∀ (o : Tr AObj) (nx : Nat) (lg : List Nat) (fid q : Nat), o.get q = some (.row [] 41 2 true) → o.get j = some (.row (vvCells l ++ rest) 41 2 true) →
    aAppend Try.prog 26 26 (.slice (some ⟨q, 0, none⟩) 0 1) (.slice (some ⟨j, 0, none⟩) (m + 1) cc) fid ⟨o, nx, lg⟩ = some (.slice (some ⟨fid, 0, none⟩) (m + 1) 0, ⟨o.put fid (some (.row (vvCells l) 41 2 true)), nx, lg⟩) := by
  intro o nx lg fid q hq hj
  have hadd : addCells 2 (.slice (some ⟨j, 0, none⟩) (m + 1) cc) ⟨o, nx, lg⟩ = some (m + 1, vvCells l) := by
    simp only [addCells, qH, hj]
    rw [show cut (vvCells l ++ rest) 0 ((m + 1) * 2) = some (vvCells l) from cut_in (by rw [vv_len, hm]) [] rest rfl rfl]; rfl
  have hr : roomOk (m + 1) 16 = true := by unfold roomOk; rw [Bool.and_eq_true, Nat.ble_eq, Nat.ble_eq]; omega
  have hb : Nat.beq (m + 1) 0 = false := rfl
  have hle : Nat.ble (m + 1) 0 = false := rfl
  rw [appOf_at app_vv, hadd]
  simp only [qH, hq, hb, ji, jg, show cut ([] : List Value) 0 (0 * 2) = some [] from rfl, Nat.zero_add, hr, hle, List.nil_append]; rfl
theorem vapp_nil {j cc : Nat} {cells : List Value} {T z : Nat} {own : Bool} : ∀ (o : Tr AObj) (nx : Nat) (lg : List Nat) (fid q : Nat), o.get q = some (.row [] 41 2 true) → o.get j = some (.row cells T z own) →
    aAppend Try.prog 26 26 (.slice (some ⟨q, 0, none⟩) 0 1) (.slice (some ⟨j, 0, none⟩) 0 cc) fid ⟨o, nx, lg⟩ = some (.slice (some ⟨q, 0, none⟩) 0 1, ⟨o, nx, lg⟩) := by
  intro o nx lg fid q hq hj
  have hadd : addCells 2 (.slice (some ⟨j, 0, none⟩) 0 cc) ⟨o, nx, lg⟩ = some (0, []) := by
    simp only [addCells, qH, hj]; rfl
  rw [appOf_at app_vv, hadd]; rfl
section
variable {O : Helps} {n : Nat} {o : Tr AObj} {nx : Nat} {lg : List Nat} {w : Nat → Nat} {B : HB} {hs : HS}
/-- what a copy of a list of values comes to -/
def CloneTo (o : Tr AObj) (nx : Nat) (lg : List Nat) (a : Option Nat) (l : List VV) (r : Value × AHeap) : Prop :=
  ∃ ca cc o' nx', r = (.slice (slA ca) l.length cc, ⟨o', nx', lg⟩) ∧ nx ≤ nx' ∧ ValsIn o' nx' ca l ∧ SlOk ca l cc ∧ (∀ q, ca = some q → nx ≤ q) ∧ (∀ x, x < nx → o'.get x = o.get x) ∧ (a ≠ none → nx < nx') ∧ (a = none → nx' = nx)
theorem sl0_eql : binV Try.prog .eql 26 false true (.slice none 0 0) (.slice none 0 0) = some (.bool true) := by kernel_rfl
set_option maxHeartbeats 8000000 in
theorem vclone_ok (hO : Clear O) {a : Option Nat} {l : List VV} {cc : Nat} (h : ValsIn o nx a l) (hc : a = none → cc = 0) (hl : l.length ≤ 1000000) : Got (oCall Try.prog [] O (n + 1) 49 [.slice (slA a) l.length cc] ⟨o, nx, lg⟩) (CloneTo o nx lg a l) := by
  rw [y_fn (rs := [.tmp 2]) (hO _ (by decide)) Try.func49 rfl (by kernel_rfl) rfl rfl]
  rcases h with ⟨rfl, rfl⟩ | ⟨j, rest, rfl, hj, hrow⟩
  · have hcc : cc = 0 := hc rfl
    subst hcc
    repeat (first | with_reducible (first | refine n_on ?_ | refine n_seq ?_ | refine s_else ?_ | refine n_t ?_ | refine n_gt ?_ | refine d_t ?_ | refine n_nil ?_ | refine d_nil ?_ | refine n_block ?_ | refine n_skip ?_ | refine n_bon ?_ | refine n_bback ?_ | refine n_back ?_ | refine n_out ?_ | refine n_bout rfl ?_ | refine n_bfar rfl ?_ | refine n_ret ?_ | refine n_exit ?_ | refine n_label ?_ | refine n_scope ?_ | refine n_son ?_ | refine n_sback ?_) | (with_reducible (first | apply n_region | apply d_region); (simp only [JV, JU, JW, Nat.reduceAdd, Nat.zero_add]; exact rfl)) | (with_reducible (first | apply s_op | apply n_guard | apply n_cond | apply d_guard | apply d_op | apply n_fin | apply n_finb); (simp (maxDischargeDepth := 6) only [sy3.1, zY, qG, qP, qQ, qR, qS, qT, rowAt, ↓jg, ↓ji, Nat.reduceAdd, Nat.reduceEqDiff, ne_eq, jG, Nat.reduceLT, if_true, ite_true, Int.reduceLE, Int.reduceLT, Int.reduceEq, Int.reduceNeg, Int.reduceAdd, Nat.reduceSub, if_false, ite_false, fs_49.1, slA, sl0_eql, kind_pure, kind_load, kind_fresh, kind_other, jg, ji, undef]; first | exact rfl | exact ⟨rfl, rfl, rfl, rfl⟩); try (with_reducible refine calmK_in ?_; decide +kernel)))
    refine quiet_end (by rfl) (by rfl) ?_
    exact ⟨none, 0, _, _, rfl, Nat.le_refl _, .inl ⟨rfl, rfl⟩, .inl rfl, fun q e => (by cases e), fun _ _ => rfl, fun e => absurd rfl e, fun _ => rfl⟩
  · cases hm : l.length with
    | zero =>
      have hl0 : l = [] := List.eq_nil_of_length_eq_zero hm
      subst hl0
      have hvn := vapp_nil (cc := cc) (j := j) (cells := vvCells [] ++ rest) (T := 41) (z := 2) (own := true)
      repeat (first | with_reducible (first | refine n_on ?_ | refine n_seq ?_ | refine s_else ?_ | refine n_t ?_ | refine n_gt ?_ | refine d_t ?_ | refine n_nil ?_ | refine d_nil ?_ | refine n_block ?_ | refine n_skip ?_ | refine n_bon ?_ | refine n_bback ?_ | refine n_back ?_ | refine n_out ?_ | refine n_bout rfl ?_ | refine n_bfar rfl ?_ | refine n_ret ?_ | refine n_exit ?_ | refine n_label ?_ | refine n_scope ?_ | refine n_son ?_ | refine n_sback ?_) | (with_reducible (first | apply n_region | apply d_region); (simp only [JV, JU, JW, Nat.reduceAdd, Nat.zero_add]; exact rfl)) | (with_reducible (first | apply s_op | apply n_guard | apply n_cond | apply d_guard | apply d_op | apply n_fin | apply n_finb); (simp (maxDischargeDepth := 6) only [sy3.1, zY, qG, qP, qQ, qR, qS, qT, rowAt, ↓jg, ↓ji, Nat.reduceAdd, Nat.reduceEqDiff, ne_eq, jG, Nat.reduceLT, if_true, ite_true, Int.reduceLE, Int.reduceLT, Int.reduceEq, Int.reduceNeg, Int.reduceAdd, Nat.reduceSub, if_false, ite_false, fs_49.1, slA, hj, hrow, st_buildSliceV, build_vv0, hvn, kind_pure, kind_load, kind_fresh, kind_other, jg, ji, undef]; first | exact rfl | exact ⟨rfl, rfl, rfl, rfl⟩); try (with_reducible refine calmK_in ?_; decide +kernel)))
      unfold CloneTo
      exact ⟨some (nx + 3), 1, _, _, leave_new (by rfl) (show Nat.blt (nx + 3) nx = false from blt_new (by omega)), by omega, .inr ⟨_, [], rfl, by omega, qE _ _ _⟩, .inr ⟨rfl, rfl, by simp⟩, fun q e => (by cases e; omega), fun x hx => qF _ _ _ _ (by omega), fun _ => by omega, fun e => (by cases e)⟩
    | succ m =>
      repeat (first | with_reducible (first | refine n_on ?_ | refine n_seq ?_ | refine s_else ?_ | refine n_t ?_ | refine n_gt ?_ | refine d_t ?_ | refine n_nil ?_ | refine d_nil ?_ | refine n_block ?_ | refine n_skip ?_ | refine n_bon ?_ | refine n_bback ?_ | refine n_back ?_ | refine n_out ?_ | refine n_bout rfl ?_ | refine n_bfar rfl ?_ | refine n_ret ?_ | refine n_exit ?_ | refine n_label ?_ | refine n_scope ?_ | refine n_son ?_ | refine n_sback ?_) | (with_reducible (first | apply n_region | apply d_region); (simp only [JV, JU, JW, Nat.reduceAdd, Nat.zero_add]; exact rfl)) | (with_reducible (first | apply s_op | apply n_guard | apply n_cond | apply d_guard | apply d_op | apply n_fin | apply n_finb); (simp (maxDischargeDepth := 6) only [sy3.1, zY, qG, qP, qQ, qR, qS, qT, rowAt, ↓jg, ↓ji, Nat.reduceAdd, Nat.reduceEqDiff, ne_eq, jG, Nat.reduceLT, if_true, ite_true, Int.reduceLE, Int.reduceLT, Int.reduceEq, Int.reduceNeg, Int.reduceAdd, Nat.reduceSub, if_false, ite_false, fs_49.1, slA, hj, hrow, st_buildSliceV, build_vv0, vapp_row (cc := cc) (rest := rest) (j := j) hm hl, kind_pure, kind_load, kind_fresh, kind_other, jg, ji, undef]; first | exact rfl | exact ⟨rfl, rfl, rfl, rfl⟩); try (with_reducible refine calmK_in ?_; decide +kernel)))
      unfold CloneTo
      rw [hm]
      exact ⟨some (nx + 5), 0, _, _, leave_new (by rfl) (show Nat.blt (nx + 5) nx = false from blt_new (by omega)), by omega, .inr ⟨_, [], rfl, by omega, by rw [List.append_nil]; exact qE _ _ _⟩, .inl rfl, fun q e => (by cases e; omega), fun x hx => by (repeat (first | rw [qE] | rw [qF _ _ _ _ (by omega)])), fun _ => by omega, fun e => (by cases e)⟩
def badB (hs : HS) (c : VV) : Bool := !(ofO hs c 9).isSome
theorem ofV_eql (B : HB) (hs : HS) (v : VV) (k : Int) : binV Try.prog .eql 128 false true (if v.1 = k then foundV B hs v else .pointer none) (.pointer none) = some (.bool !(ofO hs v k).isSome) := by
  unfold ofO
  by_cases h : v.1 = k
  · rw [if_pos h, if_pos h]; exact found_eql B hs v
  · rw [if_neg h, if_neg h]; exact ptr0_eql
set_option maxHeartbeats 8000000 in
theorem bad_ok (hO : Clear O) (h : HeapIn o nx w B hs) {hb e z : Nat} (hp : o.get hb = some (.row [.pointer (some ⟨B.i, 0, none⟩)] e z true)) (hlt : hb < nx) (c : VV) : oCall Try.prog [] O (n + 4) 70 [.agg #[.int .u8 c.1, .int .i64 c.2], .pointer (some ⟨hb, 0, none⟩)] ⟨o, nx, lg⟩ = some (.bool (badB hs c), ⟨o, nx, lg⟩) := by
  refine of_got ?_
  have hof := fun (X : AObj) (q : Nat) (lg : List Nat) => of_ok (n := n) (lg := lg) hO (more1 h (some X) q) c 9
  have hfn := ofV_eql B hs c 9
  unfold badB
  generalize (if c.1 = 9 then foundV B hs c else .pointer none) = fv at hof hfn
  rw [y_fn (rs := [.tmp 3]) (hO _ (by decide)) Try.func70 rfl (by kernel_rfl) rfl rfl]
  repeat (first | with_reducible (first | refine n_on ?_ | refine n_seq ?_ | refine s_else ?_ | refine n_t ?_ | refine n_gt ?_ | refine d_t ?_ | refine n_nil ?_ | refine d_nil ?_ | refine n_block ?_ | refine n_skip ?_ | refine n_bon ?_ | refine n_bback ?_ | refine n_back ?_ | refine n_out ?_ | refine n_bout rfl ?_ | refine n_bfar rfl ?_ | refine n_ret ?_ | refine n_exit ?_ | refine n_label ?_ | refine n_scope ?_ | refine n_son ?_ | refine n_sback ?_) | (with_reducible (first | apply n_region | apply d_region); (simp only [JV, JU, JW, Nat.reduceAdd, Nat.zero_add]; exact rfl)) | (with_reducible (first | apply s_op | apply n_guard | apply n_cond | apply d_guard | apply d_op | apply n_fin | apply n_finb); (simp (maxDischargeDepth := 6) only [sy3.1, zY, qG, qP, qQ, qR, qS, qT, rowAt, ↓jg, ↓ji, Nat.reduceAdd, Nat.reduceEqDiff, ne_eq, jG, Nat.reduceLT, if_true, ite_true, Int.reduceLE, Int.reduceLT, Int.reduceEq, Int.reduceNeg, Int.reduceAdd, Nat.reduceSub, if_false, ite_false, fs_70.1, hp, hlt, hof, hfn, kind_pure, kind_load, kind_fresh, kind_other, jg, ji, undef]; first | exact rfl | exact ⟨rfl, rfl, rfl, rfl⟩); try (with_reducible refine calmK_in ?_; decide +kernel)))
  try exact Ja (by rfl) (by rfl)
/-- where the first bad one stands -/
def badAt (hs : HS) : List VV → Nat → Option Nat
  | [], _ => none
  | c :: l, i => if badB hs c = true then some i else badAt hs l (i + 1)
theorem badAt_any (hs : HS) : ∀ (l : List VV) (i : Nat), (badAt hs l i).isSome = l.any (badB hs)
  | [], _ => rfl
  | c :: l, i => by
    unfold badAt
    rw [List.any_cons]
    by_cases h : badB hs c = true
    · rw [if_pos h, h]; rfl
    · rw [if_neg h, badAt_any hs l (i + 1)]
      rw [Bool.not_eq_true] at h
      rw [h]; rfl
def ixV : Option Nat → Int
  | some i => Int.ofNat i
  | none => -1
set_option maxHeartbeats 8000000 in
theorem index_bad (hO : Clear O) (h : HeapIn o nx w B hs) {hb e z : Nat} (hp : o.get hb = some (.row [.pointer (some ⟨B.i, 0, none⟩)] e z true)) (hlt : hb < nx) {a : Option Nat} {l : List VV} {cc : Nat} (hv : ValsIn o nx a l) (hl : l.length ≤ 1000000) (hn : l.length < n) :
    oCall Try.prog [] O (n + 5) 80 [.slice (slA a) l.length cc, .func (.func 70) #[] #[.pointer (some ⟨hb, 0, none⟩)]] ⟨o, nx, lg⟩ = some (.int .i64 (ixV (badAt hs l 0)), ⟨o, nx, lg⟩) := by
  refine of_got ?_
  rw [y_fn (rs := [.tmp 4]) (hO _ (by decide)) Try.func80 rfl (by kernel_rfl) rfl rfl]
  repeat (first | with_reducible (first | refine n_on ?_ | refine n_seq ?_ | refine s_else ?_ | refine n_t ?_ | refine n_gt ?_ | refine d_t ?_ | refine n_nil ?_ | refine d_nil ?_ | refine n_block ?_ | refine n_skip ?_ | refine n_bon ?_ | refine n_bback ?_ | refine n_back ?_ | refine n_out ?_ | refine n_bout rfl ?_ | refine n_bfar rfl ?_ | refine n_ret ?_ | refine n_exit ?_ | refine n_label ?_ | refine n_scope ?_ | refine n_son ?_ | refine n_sback ?_) | (with_reducible (first | apply n_region | apply d_region); (simp only [JV, JU, JW, Nat.reduceAdd, Nat.zero_add]; exact rfl)) | (with_reducible (first | apply s_op | apply n_guard | apply n_cond | apply d_guard | apply d_op | apply n_fin | apply n_finb); (simp (maxDischargeDepth := 6) only [sy3.1, zY, qG, qP, qQ, qR, qS, qT, rowAt, ↓jg, ↓ji, Nat.reduceAdd, Nat.reduceEqDiff, ne_eq, jG, Nat.reduceLT, if_true, ite_true, Int.reduceLE, Int.reduceLT, Int.reduceEq, Int.reduceNeg, Int.reduceAdd, Nat.reduceSub, if_false, ite_false, fs_80.1, hp, kind_pure, kind_load, kind_fresh, kind_other, jg, ji, undef]; first | exact rfl | exact ⟨rfl, rfl, rfl, rfl⟩); try (with_reducible refine calmK_in ?_; decide +kernel)))
  rw [y_loop_eq]
  refine y_loop (I := fun q e H => ∃ k nx' lg', k + q = l.length ∧ H = (⟨o, nx', lg'⟩ : AHeap) ∧ nx ≤ nx' ∧ lg'.all (fun b => Nat.ble nx b) = true ∧ e.get 0 = some (.slice (slA a) l.length cc) ∧ e.get 1 = some (.func (.func 70) #[] #[.pointer (some ⟨hb, 0, none⟩)]) ∧ e.get 7 = some (.int .i64 (.ofNat l.length)) ∧ e.get 8 = some (.int .i64 (.ofNat k)) ∧ badAt hs l 0 = badAt hs (l.drop k) k) ?_ l.length _ _ _ ?_ (by omega)
  · rintro q e H ⟨k, nx', lg', hk, rfl, hnx, hlg, g0, g1, g7, g8, hbad⟩
    by_cases hlt2 : k < l.length
    · have hd : l.drop k = l[k] :: l.drop (k + 1) := List.drop_eq_getElem_cons hlt2
      rcases hv with ⟨rfl, e2⟩ | ⟨j, rest, rfl, hj, hrow⟩
      · rw [e2] at hlt2; simp at hlt2
      have hc := vv_cut hlt2 rest
      have hb1 : Nat.blt k l.length = true := by rw [Nat.blt_eq]; exact hlt2
      have hw := wrap_next k (by omega)
      have hcall := fun (q : Nat) (lg : List Nat) => bad_ok (n := n) (lg := lg) hO (h.more (nx' := nx' + q) (by omega) fun _ _ => rfl) hp (by omega) l[k]
      have hco := calleeV_func (P := Try.prog) 70 #[] #[.pointer (some ⟨hb, 0, none⟩)] (by kernel_rfl)
      cases hbk : badB hs l[k] with
      | true =>
        rw [hbk] at hcall
        repeat (first | with_reducible (first | refine n_on ?_ | refine n_seq ?_ | refine s_else ?_ | refine n_t ?_ | refine n_gt ?_ | refine d_t ?_ | refine n_nil ?_ | refine d_nil ?_ | refine n_block ?_ | refine n_skip ?_ | refine n_bon ?_ | refine n_bback ?_ | refine n_back ?_ | refine n_out ?_ | refine n_bout rfl ?_ | refine n_bfar rfl ?_ | refine n_ret ?_ | refine n_exit ?_ | refine n_label ?_ | refine n_scope ?_ | refine n_son ?_ | refine n_sback ?_) | (with_reducible (first | apply n_region | apply d_region); (simp only [JV, JU, JW, Nat.reduceAdd, Nat.zero_add]; exact rfl)) | (with_reducible (first | apply s_op | apply n_guard | apply n_cond | apply d_guard | apply d_op | apply n_fin | apply n_finb); (simp (maxDischargeDepth := 6) only [sy3.1, zY, qG, qP, qQ, qR, qS, qT, rowAt, ↓jg, ↓ji, Nat.reduceAdd, Nat.reduceEqDiff, ne_eq, jG, Nat.reduceLT, if_true, ite_true, Int.reduceLE, Int.reduceLT, Int.reduceEq, Int.reduceNeg, Int.reduceAdd, Nat.reduceSub, if_false, ite_false, fs_80.1, slA, g0, g1, g7, g8, decide_eq_true hlt2, indexAt, hb1, Option.isNone_none, hrow, hc, hco, hcall, kind_pure, kind_load, kind_fresh, kind_other, jg, ji, undef]; first | exact rfl | exact ⟨rfl, rfl, rfl, rfl⟩); try (with_reducible refine calmK_in ?_; decide +kernel)))
        rw [hbad, hd]
        unfold badAt
        rw [if_pos hbk]
        try exact Ja (by simp only [hlg]) (by rfl)
      | false =>
        rw [hbk] at hcall
        repeat (first | with_reducible (first | refine n_on ?_ | refine n_seq ?_ | refine s_else ?_ | refine n_t ?_ | refine n_gt ?_ | refine d_t ?_ | refine n_nil ?_ | refine d_nil ?_ | refine n_block ?_ | refine n_skip ?_ | refine n_bon ?_ | refine n_bback ?_ | refine n_back ?_ | refine n_out ?_ | refine n_bout rfl ?_ | refine n_bfar rfl ?_ | refine n_ret ?_ | refine n_exit ?_ | refine n_label ?_ | refine n_scope ?_ | refine n_son ?_ | refine n_sback ?_) | (with_reducible (first | apply n_region | apply d_region); (simp only [JV, JU, JW, Nat.reduceAdd, Nat.zero_add]; exact rfl)) | (with_reducible (first | apply s_op | apply n_guard | apply n_cond | apply d_guard | apply d_op | apply n_fin | apply n_finb); (simp (maxDischargeDepth := 6) only [sy3.1, zY, qG, qP, qQ, qR, qS, qT, rowAt, ↓jg, ↓ji, Nat.reduceAdd, Nat.reduceEqDiff, ne_eq, jG, Nat.reduceLT, if_true, ite_true, Int.reduceLE, Int.reduceLT, Int.reduceEq, Int.reduceNeg, Int.reduceAdd, Nat.reduceSub, if_false, ite_false, fs_80.1, slA, g0, g1, g7, g8, decide_eq_true hlt2, indexAt, hb1, Option.isNone_none, hrow, hc, hco, hcall, hw, kind_pure, kind_load, kind_fresh, kind_other, jg, ji, undef]; first | exact rfl | exact ⟨rfl, rfl, rfl, rfl⟩); try (with_reducible refine calmK_in ?_; decide +kernel)))
        refine ⟨q - 1, by omega, k + 1, _, _, by omega, rfl, by omega, hlg, ?_, ?_, ?_, ?_, ?_⟩
        · simp only [qC, qD, qE, qF, Tr.get_nil, ne_eq, not_false_eq_true, Nat.reduceEqDiff, g0]
        · simp only [qC, qD, qE, qF, Tr.get_nil, ne_eq, not_false_eq_true, Nat.reduceEqDiff, g1]
        · simp only [qC, qD, qE, qF, Tr.get_nil, ne_eq, not_false_eq_true, Nat.reduceEqDiff, g7]
        · simp only [qC, qD, qE, qF, Tr.get_nil, ne_eq, not_false_eq_true, Nat.reduceEqDiff]
        · rw [hbad, hd]
          conv => lhs; unfold badAt
          rw [hbk]; rfl
    · repeat (first | with_reducible (first | refine n_on ?_ | refine n_seq ?_ | refine s_else ?_ | refine n_t ?_ | refine n_gt ?_ | refine d_t ?_ | refine n_nil ?_ | refine d_nil ?_ | refine n_block ?_ | refine n_skip ?_ | refine n_bon ?_ | refine n_bback ?_ | refine n_back ?_ | refine n_out ?_ | refine n_bout rfl ?_ | refine n_bfar rfl ?_ | refine n_ret ?_ | refine n_exit ?_ | refine n_label ?_ | refine n_scope ?_ | refine n_son ?_ | refine n_sback ?_) | (with_reducible (first | apply n_region | apply d_region); (simp only [JV, JU, JW, Nat.reduceAdd, Nat.zero_add]; exact rfl)) | (with_reducible (first | apply s_op | apply n_guard | apply n_cond | apply d_guard | apply d_op | apply n_fin | apply n_finb); (simp (maxDischargeDepth := 6) only [sy3.1, zY, qG, qP, qQ, qR, qS, qT, rowAt, ↓jg, ↓ji, Nat.reduceAdd, Nat.reduceEqDiff, ne_eq, jG, Nat.reduceLT, if_true, ite_true, Int.reduceLE, Int.reduceLT, Int.reduceEq, Int.reduceNeg, Int.reduceAdd, Nat.reduceSub, if_false, ite_false, fs_80.1, g0, g1, g7, g8, decide_eq_false hlt2, kind_pure, kind_load, kind_fresh, kind_other, jg, ji, undef]; first | exact rfl | exact ⟨rfl, rfl, rfl, rfl⟩); try (with_reducible refine calmK_in ?_; decide +kernel)))
      have hd : l.drop k = [] := List.drop_eq_nil_of_le (by omega)
      rw [hbad, hd]
      try exact Ja (by simp only [hlg]) (by rfl)
  · refine ⟨0, _, _, by omega, rfl, by omega, rfl, ?_, ?_, ?_, ?_, rfl⟩
    · simp only [qG, qC, qD, qE, qF, Tr.get_nil, ne_eq, not_false_eq_true, Nat.reduceEqDiff]
    · simp only [qG, qC, qD, qE, qF, Tr.get_nil, ne_eq, not_false_eq_true, Nat.reduceEqDiff]
    · simp only [qG, qC, qD, qE, qF, Tr.get_nil, ne_eq, not_false_eq_true, Nat.reduceEqDiff]
    · simp only [qG, qC, qD, qE, qF, Tr.get_nil, ne_eq, not_false_eq_true, Nat.reduceEqDiff]; rfl
end
end Go.Proofs.Ytckahbnkdiamjaa
