/- The document's pool, on the abstract machine: Size, New, Resize. -/
import Derived.Test.YticeabhilkceiaaPlA
namespace Go.Proofs.Yticeabhilkceiaa
open Go.RowKit
set_option linter.unusedSimpArgs false
set_option linter.unusedVariables false
set_option maxRecDepth 100000

theorem place_lt : ∀ {l : List Int} {id : Int} {i k : Nat}, placeN l id i = some k → i ≤ k ∧ k < i + l.length
  | [], _, _, _, h => by cases h
  | x :: l, id, i, k, h => by
    simp only [placeN] at h
    split at h
    · cases h; simp
    · have := place_lt h; simp only [List.length_cons]; omega
/-- a list of the document's: none, or some in a row of just these -/
def RIn (o : Tr AObj) (nx : Nat) (a : Option Nat) (xs : List Int) : Prop := (a = none ∧ xs = []) ∨ ∃ j, a = some j ∧ j < nx ∧ xs ≠ [] ∧ o.get j = some (.row (xs.map (Value.int .i64)) 3 1 true)
theorem RIn.ints {o : Tr AObj} {nx : Nat} {a : Option Nat} {xs : List Int} (h : RIn o nx a xs) : IntsIn o nx a xs := by
  rcases h with h | ⟨j, rfl, h1, _, h⟩
  · exact .inl h
  · exact .inr ⟨j, [], rfl, h1, by rw [List.append_nil]; exact h⟩
theorem RIn.keep {o o' : Tr AObj} {nx nx' : Nat} {a : Option Nat} {xs : List Int} (h : RIn o nx a xs) (hn : nx ≤ nx') (hk : ∀ j, a = some j → o'.get j = o.get j) : RIn o' nx' a xs := by
  rcases h with h | ⟨j, rfl, h1, h2, h3⟩
  · exact .inl h
  · exact .inr ⟨j, rfl, Nat.lt_of_lt_of_le h1 hn, h2, (hk j rfl).trans h3⟩
theorem RIn.lt {o : Tr AObj} {nx : Nat} {a : Option Nat} {xs : List Int} (h : RIn o nx a xs) {j : Nat} (e : a = some j) : j < nx := h.ints.lt e
/-- a list of its own, in a block from lo on -/
def OwnL (o : Tr AObj) (lo : Nat) (a : Option Nat) (xs : List Int) : Prop := (a = none ∧ xs = []) ∨ ∃ j, a = some j ∧ lo ≤ j ∧ xs ≠ [] ∧ o.get j = some (.row (xs.map (Value.int .i64)) 3 1 true)
theorem OwnL.rin {o : Tr AObj} {lo nx : Nat} {a : Option Nat} {xs : List Int} (h : OwnL o lo a xs) (hn : ∀ j, a = some j → j < nx) : RIn o nx a xs := by
  rcases h with h | ⟨j, rfl, _, h1, h⟩
  · exact .inl h
  · exact .inr ⟨j, rfl, hn j rfl, h1, h⟩
theorem OwnL.keep {o o' : Tr AObj} {lo : Nat} {a : Option Nat} {xs : List Int} (h : OwnL o lo a xs) (hk : ∀ j, a = some j → o'.get j = o.get j) : OwnL o' lo a xs := by
  rcases h with h | ⟨j, rfl, h1, h2, h3⟩
  · exact .inl h
  · exact .inr ⟨j, rfl, h1, h2, (hk j rfl).trans h3⟩
theorem OwnL.mine {o : Tr AObj} {lo : Nat} {a : Option Nat} {xs : List Int} (h : OwnL o lo a xs) {j : Nat} (e : a = some j) : lo ≤ j := by
  rcases h with ⟨rfl, _⟩ | ⟨q, rfl, h1, _⟩
  · cases e
  · cases e; exact h1
theorem add_nil (H : AHeap) : addCells 1 (.slice none 0 0) H = some (0, []) := rfl
theorem add_ints {o : Tr AObj} {nx : Nat} {lg : List Nat} {j off m c : Nat} {xs : List Int} {rest : List Value} (h : o.get j = some (.row (xs.map (Value.int .i64) ++ rest) 3 1 true)) (hm : off + m ≤ xs.length) : addCells 1 (.slice (some ⟨j, off, none⟩) m c) ⟨o, nx, lg⟩ = some (m, ((xs.drop off).take m).map (Value.int .i64)) := by
  have hc : cut (xs.map (Value.int .i64) ++ rest) off (m * 1) = some (((xs.drop off).take m).map (Value.int .i64)) := by
    refine cut_in (by rw [List.length_map, List.length_take, List.length_drop]; omega) ((xs.take off).map (Value.int .i64)) (((xs.drop off).drop m).map (Value.int .i64) ++ rest) (by rw [List.length_map, List.length_take]; omega) ?_
    rw [← List.append_assoc, ← List.append_assoc, ← List.map_append, ← List.map_append, List.append_assoc, List.take_append_drop, List.take_append_drop]
  simp only [addCells, qH, h, hc]; rfl
theorem add_len {o : Tr AObj} {nx : Nat} {lg : List Nat} {v : Value} {ys : List Int} {m : Nat} (h : addCells 1 v ⟨o, nx, lg⟩ = some (m, ys.map (Value.int .i64))) (e : ys.length = m) : addCells 1 v ⟨o, nx, lg⟩ = some (ys.length, ys.map (Value.int .i64)) := by rw [e]; exact h
/-- a list is put behind none -/
theorem app_new {o : Tr AObj} {nx fid : Nat} {lg : List Nat} {v : Value} {ys : List Int} (h : addCells 1 v ⟨o, nx, lg⟩ = some (ys.length, ys.map (Value.int .i64))) (hl : ys.length ≤ 1000000) : ∃ a1 o1, aAppend Try.prog 27 27 (.slice none 0 0) v fid ⟨o, nx, lg⟩ = some (.slice (slA a1) ys.length 0, ⟨o1, nx, lg⟩) ∧ (∀ x, x ≠ fid → o1.get x = o.get x) ∧ OwnL o1 fid a1 ys ∧ (a1 = none ∨ a1 = some fid) := by
  cases ys with
  | nil => exact ⟨none, o, by rw [appOf_at app_int, h]; rfl, fun _ _ => rfl, .inl ⟨rfl, rfl⟩, .inl rfl⟩
  | cons y ys =>
    refine ⟨some fid, o.put fid (some (.row ((y :: ys).map (Value.int .i64)) 3 1 true)), ?_, fun x hx => qF _ _ _ _ hx, .inr ⟨fid, rfl, Nat.le_refl _, by simp, qE _ _ _⟩, .inr rfl⟩
    rw [List.length_cons] at h hl
    rw [app_none app_int h (by unfold roomOk; rw [Bool.and_eq_true, Nat.ble_eq, Nat.ble_eq]; omega)]
    rfl
theorem app_copy {o : Tr AObj} {nx fid : Nat} {lg : List Nat} {v : Value} {ys : List Int} (hne : ys ≠ []) (hl : ys.length ≤ 1000000) (h : addCells 1 v ⟨o, nx, lg⟩ = some (ys.length, ys.map (Value.int .i64))) : aAppend Try.prog 27 27 (.slice none 0 0) v fid ⟨o, nx, lg⟩ = some (.slice (some ⟨fid, 0, none⟩) ys.length 0, ⟨o.put fid (some (.row (ys.map (Value.int .i64)) 3 1 true)), nx, lg⟩) := by
  cases ys with
  | nil => exact absurd rfl hne
  | cons y ys =>
    rw [List.length_cons] at h hl
    rw [app_none app_int h (by unfold roomOk; rw [Bool.and_eq_true, Nat.ble_eq, Nat.ble_eq]; omega)]
    rfl
theorem add_all {o : Tr AObj} {nx : Nat} {lg : List Nat} {j : Nat} {xs : List Int} (h : o.get j = some (.row (xs.map (Value.int .i64)) 3 1 true)) (c : Nat) : addCells 1 (.slice (some ⟨j, 0, none⟩) xs.length c) ⟨o, nx, lg⟩ = some (xs.length, xs.map (Value.int .i64)) := by
  have := add_ints (nx := nx) (lg := lg) (off := 0) (m := xs.length) (c := c) (rest := []) (by rw [List.append_nil]; exact h) (by omega)
  rw [List.drop_zero, List.take_length] at this
  exact this
/-- one more behind a list -/
theorem app_one {o : Tr AObj} {nx fid lo : Nat} {lg : List Nat} {v : Value} {a : Option Nat} {xs : List Int} {x : Int} (ho : OwnL o lo a xs) (h : addCells 1 v ⟨o, nx, lg⟩ = some (0 + 1, [.int .i64 x])) (hl : xs.length ≤ 1000000) (hf : ∀ j, a = some j → j ≠ fid) (hlo : lg.all (fun i => Nat.ble lo i) = true) : ∃ o1 lg1, aAppend Try.prog 27 27 (.slice (slA a) xs.length 0) v fid ⟨o, nx, lg⟩ = some (.slice (some ⟨fid, 0, none⟩) (xs.length + 1) 0, ⟨o1, nx, lg1⟩) ∧ (∀ x, x ≠ fid → a ≠ some x → o1.get x = o.get x) ∧ o1.get fid = some (.row ((xs ++ [x]).map (Value.int .i64)) 3 1 true) ∧ lg1.all (fun i => Nat.ble lo i) = true := by
  rcases ho with ⟨rfl, rfl⟩ | ⟨j, rfl, h1, _, h2⟩
  · exact ⟨o.put fid (some (.row [.int .i64 x] 3 1 true)), lg, (app_none app_int h (by decide)), fun x hx _ => qF _ _ _ _ hx, qE _ _ _, hlo⟩
  · refine ⟨(o.put j none).put fid (some (.row ((xs ++ [x]).map (Value.int .i64)) 3 1 true)), noteId j lg, ?_, fun x hx hj => ?_, qE _ _ _, ?_⟩
    · refine (app_row (n := xs.length) (olds := xs.map (Value.int .i64)) (H := ⟨o, nx, lg⟩) app_int h h2 (cut_in (by rw [List.length_map, Nat.mul_one]) [] [] rfl (by simp)) (by unfold roomOk; rw [Bool.and_eq_true, Nat.ble_eq, Nat.ble_eq]; omega) (by rfl)).trans (by rw [List.map_append]; rfl)
    · rw [qF _ _ _ _ hx, qF _ _ _ _ (fun e => hj (by rw [e]))]
    · rw [js, hlo, show Nat.ble lo j = true from by rw [Nat.ble_eq]; exact h1]; rfl
/-- some more behind a list that is there -/
theorem app_more {o : Tr AObj} {nx fid : Nat} {lg : List Nat} {v : Value} {j : Nat} {xs : List Int} {y : Int} {ys : List Int} (ho : o.get j = some (.row (xs.map (Value.int .i64)) 3 1 true)) (h : addCells 1 v ⟨o, nx, lg⟩ = some ((y :: ys).length, (y :: ys).map (Value.int .i64))) (hl : xs.length + (y :: ys).length ≤ 1000000) :
    aAppend Try.prog 27 27 (.slice (some ⟨j, 0, none⟩) xs.length 0) v fid ⟨o, nx, lg⟩ = some (.slice (some ⟨fid, 0, none⟩) (xs.length + (y :: ys).length) 0, ⟨(o.put j none).put fid (some (.row ((xs ++ y :: ys).map (Value.int .i64)) 3 1 true)), nx, noteId j lg⟩) := by
  rw [List.length_cons] at h hl
  refine (app_row (n := xs.length) (olds := xs.map (Value.int .i64)) (H := ⟨o, nx, lg⟩) app_int h ho (cut_in (by rw [List.length_map, Nat.mul_one]) [] [] rfl (by simp)) (by unfold roomOk; rw [Bool.and_eq_true, Nat.ble_eq, Nat.ble_eq]; omega) ?_).trans (by rw [List.map_append]; rfl)
  rw [List.all_eq_true]
  intro v hv
  obtain ⟨q, _, rfl⟩ := List.mem_map.1 hv
  rfl
theorem app_same {o : Tr AObj} {nx fid : Nat} {lg : List Nat} {v : Value} {j n : Nat} (h : addCells 1 v ⟨o, nx, lg⟩ = some (0, [])) : aAppend Try.prog 27 27 (.slice (some ⟨j, 0, none⟩) n 0) v fid ⟨o, nx, lg⟩ = some (.slice (some ⟨j, 0, none⟩) n 0, ⟨o, nx, lg⟩) := by
  rw [appOf_at app_int, h]; rfl
/-- what a call leaves that answers with a pool of the document's -/
def RpTo (o : Tr AObj) (nx : Nat) (lg : List Nat) (a0 b0 : Option Nat) (bd : Int) (ids sizes : List Int) (mk : Value → Value) (r : Value × AHeap) : Prop :=
  ∃ o' nx' a' b', r = (mk (rpV bd a' b' ids sizes), ⟨o', nx', lg⟩) ∧ nx ≤ nx' ∧ RIn o' nx' a' ids ∧ RIn o' nx' b' sizes ∧ (∀ x, x < nx → o'.get x = o.get x) ∧ (a' = a0 ∨ ∀ q, a' = some q → nx ≤ q) ∧ (b' = b0 ∨ ∀ q, b' = some q → nx ≤ q)
abbrev mk2 (e : Int) (p : Value) : Value := .tuple #[p, .int .i64 e]
abbrev mk3 (i e : Int) (p : Value) : Value := .tuple #[p, .int .i64 i, .int .i64 e]
theorem low_sl {o : Tr AObj} {nx : Nat} {a : Option Nat} {xs : List Int} (h : IntsIn o nx a xs) : low1 nx (.slice (slA a) xs.length 0) = true := by
  rcases h with ⟨rfl, rfl⟩ | ⟨j, _, rfl, hj, _⟩
  · rfl
  · show Nat.blt j nx = true
    rw [Nat.blt_eq]; exact hj
theorem low1_int (m : Nat) (k : IntKind) (x : Int) : low1 m (.int k x) = true := rfl
theorem low2_int (m : Nat) (k : IntKind) (x : Int) : low2 m (.int k x) = true := rfl
theorem low2_rp (m : Nat) (bd : Int) (u v : Value) : low2 m (.agg #[.int .i64 bd, u, v]) = (low1 m u && low1 m v) := by
  show ([Value.int .i64 bd, u, v].all (low1 m)) = _
  simp only [List.all_cons, List.all_nil, low1_int, Bool.and_true, Bool.true_and]
section
variable {O : Helps} {n : Nat} {o : Tr AObj} {nx : Nat} {lg : List Nat} {a b : Option Nat} {bd : Int} {ids sizes : List Int}
theorem rp_same2 (ha : RIn o nx a ids) (hb : RIn o nx b sizes) (e : Int) {o2 : Tr AObj} {nx2 : Nat} {l : List Nat} (hl : l.all (fun i => Nat.ble nx i) = true) : RpTo o nx lg a b bd ids sizes (mk2 e) (leave ⟨o, nx, lg⟩ (mk2 e (rpV bd a b ids sizes)) ⟨o2, nx2, l⟩) := by
  refine ⟨o, nx, a, b, Ja hl ?_, Nat.le_refl _, ha, hb, fun _ _ => rfl, .inl rfl, .inl rfl⟩
  show ([Value.agg #[.int .i64 bd, .slice (slA a) ids.length 0, .slice (slA b) sizes.length 0], .int .i64 e].all (low2 nx)) = true
  simp only [List.all_cons, List.all_nil, low2_rp, low2_int, low_sl ha.ints, low_sl hb.ints, Bool.and_self]
theorem rp_same3 (ha : RIn o nx a ids) (hb : RIn o nx b sizes) (i e : Int) {o2 : Tr AObj} {nx2 : Nat} {l : List Nat} (hl : l.all (fun i => Nat.ble nx i) = true) : RpTo o nx lg a b bd ids sizes (mk3 i e) (leave ⟨o, nx, lg⟩ (mk3 i e (rpV bd a b ids sizes)) ⟨o2, nx2, l⟩) := by
  refine ⟨o, nx, a, b, Ja hl ?_, Nat.le_refl _, ha, hb, fun _ _ => rfl, .inl rfl, .inl rfl⟩
  show ([Value.agg #[.int .i64 bd, .slice (slA a) ids.length 0, .slice (slA b) sizes.length 0], .int .i64 i, .int .i64 e].all (low2 nx)) = true
  simp only [List.all_cons, List.all_nil, low2_rp, low2_int, low_sl ha.ints, low_sl hb.ints, Bool.and_self]
theorem leave_out {o o2 : Tr AObj} {nx nx2 : Nat} {lg l : List Nat} {v : Value} (hl : l.all (fun i => Nat.ble nx i) = true) (hv : lowV nx v = false) : leave ⟨o, nx, lg⟩ v ⟨o2, nx2, l⟩ = (v, ⟨o2, nx2, lg⟩) := by
  unfold leave
  simp only [hl, hv, Bool.and_false, cond]
  have : (l.filter fun i => Nat.blt i nx) = [] := by
    rw [List.filter_eq_nil_iff]
    intro x hx hlt
    have h1 := List.all_eq_true.1 hl x hx
    rw [Nat.ble_eq] at h1
    rw [Nat.blt_eq] at hlt
    omega
  rw [this]; rfl
theorem blt_big {nx j : Nat} (hj : nx ≤ j) : Nat.blt j nx = false := by
  cases e : Nat.blt j nx with
  | false => rfl
  | true => rw [Nat.blt_eq] at e; omega
theorem rp_new {a0 b0 : Option Nat} {o2 : Tr AObj} {nx2 : Nat} {l : List Nat} {mk : Value → Value} (h1 : ∀ m : Nat, lowV m (mk (rpV bd a b ids sizes)) = (low1 m (.slice (slA a) ids.length 0) && low1 m (.slice (slA b) sizes.length 0))) (hl : l.all (fun i => Nat.ble nx i) = true) (hn : nx ≤ nx2) (ha : OwnL o2 nx a ids) (hb : OwnL o2 nx b sizes) (hal : ∀ j, a = some j → j < nx2) (hbl : ∀ j, b = some j → j < nx2) (hfr : ∀ x, x < nx → o2.get x = o.get x) :
    RpTo o nx lg a0 b0 bd ids sizes mk (leave ⟨o, nx, lg⟩ (mk (rpV bd a b ids sizes)) ⟨o2, nx2, l⟩) := by
  have out : lowV nx (mk (rpV bd a b ids sizes)) = false → RpTo o nx lg a0 b0 bd ids sizes mk (leave ⟨o, nx, lg⟩ (mk (rpV bd a b ids sizes)) ⟨o2, nx2, l⟩) := fun hv => ⟨o2, nx2, a, b, leave_out hl hv, hn, ha.rin hal, hb.rin hbl, hfr, .inr fun q e => ha.mine e, .inr fun q e => hb.mine e⟩
  rcases ha with ⟨rfl, rfl⟩ | ⟨j, rfl, hj, hne, hrow⟩
  · rcases hb with ⟨rfl, rfl⟩ | ⟨j, rfl, hj, hne, hrow⟩
    · exact ⟨o, nx, none, none, Ja hl (by rw [h1]; rfl), Nat.le_refl _, .inl ⟨rfl, rfl⟩, .inl ⟨rfl, rfl⟩, fun _ _ => rfl, .inr fun q e => (by cases e), .inr fun q e => (by cases e)⟩
    · exact out (by rw [h1]; show (_ && Nat.blt j nx) = false; rw [blt_big hj, Bool.and_false])
  · exact out (by rw [h1]; show (Nat.blt j nx && _) = false; rw [blt_big hj, Bool.false_and])
theorem low_mk2 (e : Int) (m : Nat) : lowV m (mk2 e (rpV bd a b ids sizes)) = (low1 m (.slice (slA a) ids.length 0) && low1 m (.slice (slA b) sizes.length 0)) := by
  show ([Value.agg #[.int .i64 bd, .slice (slA a) ids.length 0, .slice (slA b) sizes.length 0], .int .i64 e].all (low2 m)) = _
  simp only [List.all_cons, List.all_nil, low2_rp, low2_int, Bool.and_true, Bool.true_and]
theorem low_mk3 (i e : Int) (m : Nat) : lowV m (mk3 i e (rpV bd a b ids sizes)) = (low1 m (.slice (slA a) ids.length 0) && low1 m (.slice (slA b) sizes.length 0)) := by
  show ([Value.agg #[.int .i64 bd, .slice (slA a) ids.length 0, .slice (slA b) sizes.length 0], .int .i64 i, .int .i64 e].all (low2 m)) = _
  simp only [List.all_cons, List.all_nil, low2_rp, low2_int, Bool.and_true, Bool.true_and]
set_option maxHeartbeats 4000000 in
theorem rsize_ok (hO : Clear O) (ha0 : RIn o nx a ids) (hb0 : RIn o nx b sizes) (hls : ids.length = sizes.length) (hl : ids.length ≤ 1000000) (hn : ids.length < n) (id : Int) :
    oCall Try.prog [] O (n + 2) 15 [rpV bd a b ids sizes, .int .i64 id] ⟨o, nx, lg⟩ = some (.tuple #[.int .i64 (sizeL ids sizes id).1, .bool (sizeL ids sizes id).2], ⟨o, nx, lg⟩) := by
  have ha := ha0.ints
  have hb := hb0.ints
  refine of_got ?_
  have hpl := fun (X : AObj) (q : Nat) (lg : List Nat) => rplace_ok (n := n) (b := b) (bd := bd) (sizes := sizes) (lg := lg) hO (ha.keep (o' := o.put nx (some X)) (nx' := nx + q + 1) (by omega) fun j e => qF _ _ _ _ (by have := ha.lt e; omega)) hl hn id
  unfold sizeL
  rw [y_fn (rs := [.tmp 4, .tmp 5]) (hO _ (by decide)) Try.func15 rfl (by kernel_rfl) rfl rfl]
  cases hp : placeN ids id 0 with
  | none =>
    rw [hp] at hpl
    have d1 : decide ((-1 : Int) < 0) = true := by decide
    repeat (first | with_reducible (first | refine n_on ?_ | refine n_seq ?_ | refine s_else ?_ | refine n_t ?_ | refine n_gt ?_ | refine d_t ?_ | refine n_nil ?_ | refine d_nil ?_ | refine n_block ?_ | refine n_skip ?_ | refine n_bon ?_ | refine n_bback ?_ | refine n_back ?_ | refine n_out ?_ | refine n_bout rfl ?_ | refine n_bfar rfl ?_ | refine n_ret ?_ | refine n_exit ?_ | refine n_label ?_ | refine n_scope ?_ | refine n_son ?_ | refine n_sback ?_) | (with_reducible (first | apply n_region | apply d_region); (simp only [JV, JU, JW, Nat.reduceAdd, Nat.zero_add]; exact rfl)) | (with_reducible (first | apply s_op | apply n_guard | apply n_cond | apply d_guard | apply d_op | apply n_fin | apply n_finb); (simp (maxDischargeDepth := 6) only [sy3.1, zY, qG, qP, qQ, qR, qS, qT, rowAt, ↓jg, ↓ji, Nat.reduceAdd, Nat.reduceEqDiff, ne_eq, jG, Nat.reduceLT, if_true, ite_true, Int.reduceLE, Int.reduceLT, Int.reduceEq, Int.reduceNeg, Int.reduceAdd, Nat.reduceSub, if_false, ite_false, fs_15.1, rpV, hpl, ixN, d1, kind_pure, kind_load, kind_fresh, kind_other, jg, ji, undef]; first | exact rfl | exact ⟨rfl, rfl, rfl, rfl⟩); try (with_reducible refine calmK_in ?_; decide +kernel)))
    try exact Ja (by simp only [all_relogL, js, ju, List.all_nil, jt, Bool.and_self]) (by rfl)
  | some k =>
    rw [hp] at hpl
    have hk := (place_lt hp).2
    obtain ⟨j, rest, rfl, hj, hrow, hc⟩ := hb.at (k := k) (by omega)
    have d1 : decide (Int.ofNat k < 0) = false := decide_eq_false (by simp only [Int.ofNat_eq_natCast]; omega)
    have l1 : Nat.blt k sizes.length = true := by rw [Nat.blt_eq]; omega
    have n1 : decide (sizes.length ≤ k) = false := decide_eq_false (by omega)
    simp only [rpV, slA, Option.map_some] at hpl
    repeat (first | with_reducible (first | refine n_on ?_ | refine n_seq ?_ | refine s_else ?_ | refine n_t ?_ | refine n_gt ?_ | refine d_t ?_ | refine n_nil ?_ | refine d_nil ?_ | refine n_block ?_ | refine n_skip ?_ | refine n_bon ?_ | refine n_bback ?_ | refine n_back ?_ | refine n_out ?_ | refine n_bout rfl ?_ | refine n_bfar rfl ?_ | refine n_ret ?_ | refine n_exit ?_ | refine n_label ?_ | refine n_scope ?_ | refine n_son ?_ | refine n_sback ?_) | (with_reducible (first | apply n_region | apply d_region); (simp only [JV, JU, JW, Nat.reduceAdd, Nat.zero_add]; exact rfl)) | (with_reducible (first | apply s_op | apply n_guard | apply n_cond | apply d_guard | apply d_op | apply n_fin | apply n_finb); (simp (maxDischargeDepth := 6) only [sy3.1, zY, qG, qP, qQ, qR, qS, qT, rowAt, ↓jg, ↓ji, Nat.reduceAdd, Nat.reduceEqDiff, ne_eq, jG, Nat.reduceLT, if_true, ite_true, Int.reduceLE, Int.reduceLT, Int.reduceEq, Int.reduceNeg, Int.reduceAdd, Nat.reduceSub, if_false, ite_false, fs_15.1, rpV, hpl, ixN, slA, d1, hj, hrow, hc, l1, n1, indexAt, Option.isNone_none, Nat.mul_one, kind_pure, kind_load, kind_fresh, kind_other, jg, ji, undef]; first | exact rfl | exact ⟨rfl, rfl, rfl, rfl⟩); try (with_reducible refine calmK_in ?_; decide +kernel)))
    try exact Ja (by simp only [all_relogL, js, ju, List.all_nil, jt, Bool.and_self]) (by rfl)
set_option maxHeartbeats 4000000 in
theorem rnew_ok (hO : Clear O) (m : Int) (h0 : 0 ≤ m) (h1 : m ≤ 1073741824) : oCall Try.prog [] O (n + 1) 5 [.int .i64 m] ⟨o, nx, lg⟩ = some (.tuple #[rpV m none none [] [], .int .i64 0], ⟨o, nx, lg⟩) := by
  refine of_got ?_
  have d0 : decide (m < 0) = false := decide_eq_false (by omega)
  have d1 : decide (1073741824 < m) = false := decide_eq_false (by omega)
  rw [y_fn (rs := [.cell 2 29, .tmp 3]) (hO _ (by decide)) Try.func5 rfl (by kernel_rfl) rfl rfl]
  repeat (first | with_reducible (first | refine n_on ?_ | refine n_seq ?_ | refine s_else ?_ | refine n_t ?_ | refine n_gt ?_ | refine d_t ?_ | refine n_nil ?_ | refine d_nil ?_ | refine n_block ?_ | refine n_skip ?_ | refine n_bon ?_ | refine n_bback ?_ | refine n_back ?_ | refine n_out ?_ | refine n_bout rfl ?_ | refine n_bfar rfl ?_ | refine n_ret ?_ | refine n_exit ?_ | refine n_label ?_ | refine n_scope ?_ | refine n_son ?_ | refine n_sback ?_) | (with_reducible (first | apply n_region | apply d_region); (simp only [JV, JU, JW, Nat.reduceAdd, Nat.zero_add]; exact rfl)) | (with_reducible (first | apply s_op | apply n_guard | apply n_cond | apply d_guard | apply d_op | apply n_fin | apply n_finb); (simp (maxDischargeDepth := 6) only [sy3.1, zY, qG, qP, qQ, qR, qS, qT, rowAt, ↓jg, ↓ji, Nat.reduceAdd, Nat.reduceEqDiff, ne_eq, jG, Nat.reduceLT, if_true, ite_true, Int.reduceLE, Int.reduceLT, Int.reduceEq, Int.reduceNeg, Int.reduceAdd, Nat.reduceSub, if_false, ite_false, fs_5.1, rpV, slA, d0, d1, kind_pure, kind_load, kind_fresh, kind_other, jg, ji, undef]; first | exact rfl | exact ⟨rfl, rfl, rfl, rfl⟩); try (with_reducible refine calmK_in ?_; decide +kernel)))
  try exact Ja (by simp only [all_relogL, js, ju, List.all_nil, jt, Bool.and_self]) (by rfl)
theorem rnew_bad (hO : Clear O) (m : Int) (h : m < 0 ∨ 1073741824 < m) : oCall Try.prog [] O (n + 1) 5 [.int .i64 m] ⟨o, nx, lg⟩ = some (.tuple #[rpV 0 none none [] [], .int .i64 2], ⟨o, nx, lg⟩) := by
  refine of_got ?_
  rw [y_fn (rs := [.cell 2 29, .tmp 3]) (hO _ (by decide)) Try.func5 rfl (by kernel_rfl) rfl rfl]
  by_cases h0 : m < 0
  · repeat (first | with_reducible (first | refine n_on ?_ | refine n_seq ?_ | refine s_else ?_ | refine n_t ?_ | refine n_gt ?_ | refine d_t ?_ | refine n_nil ?_ | refine d_nil ?_ | refine n_block ?_ | refine n_skip ?_ | refine n_bon ?_ | refine n_bback ?_ | refine n_back ?_ | refine n_out ?_ | refine n_bout rfl ?_ | refine n_bfar rfl ?_ | refine n_ret ?_ | refine n_exit ?_ | refine n_label ?_ | refine n_scope ?_ | refine n_son ?_ | refine n_sback ?_) | (with_reducible (first | apply n_region | apply d_region); (simp only [JV, JU, JW, Nat.reduceAdd, Nat.zero_add]; exact rfl)) | (with_reducible (first | apply s_op | apply n_guard | apply n_cond | apply d_guard | apply d_op | apply n_fin | apply n_finb); (simp (maxDischargeDepth := 6) only [sy3.1, zY, qG, qP, qQ, qR, qS, qT, rowAt, ↓jg, ↓ji, Nat.reduceAdd, Nat.reduceEqDiff, ne_eq, jG, Nat.reduceLT, if_true, ite_true, Int.reduceLE, Int.reduceLT, Int.reduceEq, Int.reduceNeg, Int.reduceAdd, Nat.reduceSub, if_false, ite_false, fs_5.1, rpV, slA, decide_eq_true h0, kind_pure, kind_load, kind_fresh, kind_other, jg, ji, undef]; first | exact rfl | exact ⟨rfl, rfl, rfl, rfl⟩); try (with_reducible refine calmK_in ?_; decide +kernel)))
    try exact Ja (by simp only [all_relogL, js, ju, List.all_nil, jt, Bool.and_self]) (by rfl)
  · have h1 : 1073741824 < m := h.resolve_left h0
    repeat (first | with_reducible (first | refine n_on ?_ | refine n_seq ?_ | refine s_else ?_ | refine n_t ?_ | refine n_gt ?_ | refine d_t ?_ | refine n_nil ?_ | refine d_nil ?_ | refine n_block ?_ | refine n_skip ?_ | refine n_bon ?_ | refine n_bback ?_ | refine n_back ?_ | refine n_out ?_ | refine n_bout rfl ?_ | refine n_bfar rfl ?_ | refine n_ret ?_ | refine n_exit ?_ | refine n_label ?_ | refine n_scope ?_ | refine n_son ?_ | refine n_sback ?_) | (with_reducible (first | apply n_region | apply d_region); (simp only [JV, JU, JW, Nat.reduceAdd, Nat.zero_add]; exact rfl)) | (with_reducible (first | apply s_op | apply n_guard | apply n_cond | apply d_guard | apply d_op | apply n_fin | apply n_finb); (simp (maxDischargeDepth := 6) only [sy3.1, zY, qG, qP, qQ, qR, qS, qT, rowAt, ↓jg, ↓ji, Nat.reduceAdd, Nat.reduceEqDiff, ne_eq, jG, Nat.reduceLT, if_true, ite_true, Int.reduceLE, Int.reduceLT, Int.reduceEq, Int.reduceNeg, Int.reduceAdd, Nat.reduceSub, if_false, ite_false, fs_5.1, rpV, slA, decide_eq_false h0, decide_eq_true h1, kind_pure, kind_load, kind_fresh, kind_other, jg, ji, undef]; first | exact rfl | exact ⟨rfl, rfl, rfl, rfl⟩); try (with_reducible refine calmK_in ?_; decide +kernel)))
    try exact Ja (by simp only [all_relogL, js, ju, List.all_nil, jt, Bool.and_self]) (by rfl)
end
end Go.Proofs.Yticeabhilkceiaa
