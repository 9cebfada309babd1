/- Pool: how it lies in the abstract memory; the calls that only look at it. -/
import Derived.Test.YtdfadipfhcikdaaGreatDoorClr
import Derived.Test.YtdfadipfhcikdaaGreatDoorTabApp
import Derived.Test.YtdfadipfhcikdaaGreatDoorAmGo
import Derived.Test.YtdfadipfhcikdaaGreatDoorPoolPlain
namespace Go.Proofs.YtdfadipfhcikdaaGreatDoor
open Go.RowKit
set_option linter.unusedSimpArgs false
set_option linter.unusedVariables false
set_option maxRecDepth 100000

/-- numbers in a row -/
def IntsIn (o : Tr AObj) (nx : Nat) (a : Option Nat) (xs : List Int) : Prop :=
  (a = none ∧ xs = []) ∨ ∃ j rest, a = some j ∧ j < nx ∧ o.get j = some (.row (xs.map (Value.int .i64) ++ rest) 3 1 true)
abbrev slA (a : Option Nat) : Option Addr := a.map fun j => ⟨j, 0, none⟩
/-- how the slices are marked: the free numbers' capacity is known where they are a copy of none; sizes that are there are some -/
def PMk (a b : Option Nat) (sizes free : List Int) (c : Nat) : Prop := (c = 0 ∨ (c = 1 ∧ free = [] ∧ b ≠ none)) ∧ (a = none ∨ sizes ≠ [])
theorem PMk.zero {a b : Option Nat} {sizes free : List Int} {c : Nat} (h : PMk a b sizes free c) (hf : free ≠ []) : c = 0 := h.1.resolve_right fun e => hf e.2.1
theorem PMk.turn {a b : Option Nat} {sizes free sizes' : List Int} {c : Nat} (h : PMk a b sizes free c) (hl : sizes'.length = sizes.length) : PMk a b sizes' free c := ⟨h.1, h.2.imp id fun e e2 => e (by rw [e2] at hl; exact List.eq_nil_of_length_eq_zero hl.symm)⟩
theorem PMk.nil {c : Nat} {a : Option Nat} {sizes free : List Int} (h : PMk a none sizes free c) : c = 0 := h.1.resolve_right fun e => e.2.2 rfl
structure PoolIn (o : Tr AObj) (nx i : Nat) (a b : Option Nat) (st : PS) : Prop where
  lt : i < nx
  row : ∃ z c, o.get i = some (.row [.bool true, .int .i64 st.bound, .int .i64 st.used, .int .i64 st.count, .slice (slA a) st.sizes.length 0, .slice (slA b) st.free.length c] 92 z true) ∧ PMk a b st.sizes st.free c
  sz : IntsIn o nx a st.sizes
  fr : IntsIn o nx b st.free
  nea : a ≠ some i
  neb : b ≠ some i
  neab : ∀ j, a = some j → b ≠ some j
/-- a block of the pool's -/
def PMine (i : Nat) (a b : Option Nat) (x : Nat) : Prop := x = i ∨ a = some x ∨ b = some x
theorem IntsIn.keep {o o' : Tr AObj} {nx nx' : Nat} {a : Option Nat} {xs : List Int} (h : IntsIn o nx a xs) (hn : nx ≤ nx') (hk : ∀ j, a = some j → o'.get j = o.get j) : IntsIn o' nx' a xs := by
  rcases h with h | ⟨j, rest, rfl, h1, h2⟩
  · exact .inl h
  · exact .inr ⟨j, rest, rfl, Nat.lt_of_lt_of_le h1 hn, (hk j rfl).trans h2⟩
theorem PoolIn.keep {o o' : Tr AObj} {nx nx' i : Nat} {a b : Option Nat} {st : PS} (h : PoolIn o nx i a b st) (hn : nx ≤ nx') (hk : ∀ x, PMine i a b x → o'.get x = o.get x) : PoolIn o' nx' i a b st := by
  obtain ⟨z, cf, hr, hcf⟩ := h.row
  exact ⟨Nat.lt_of_lt_of_le h.lt hn, ⟨z, cf, (hk i (.inl rfl)).trans hr, hcf⟩, h.sz.keep hn fun j e => hk j (.inr (.inl e)), h.fr.keep hn fun j e => hk j (.inr (.inr e)), h.nea, h.neb, h.neab⟩
theorem IntsIn.lt {o : Tr AObj} {nx : Nat} {a : Option Nat} {xs : List Int} (h : IntsIn o nx a xs) {j : Nat} (e : a = some j) : j < nx := by
  rcases h with ⟨rfl, _⟩ | ⟨j', rest, rfl, h1, _⟩
  · cases e
  · cases e; exact h1
theorem PoolIn.mine_lt {o : Tr AObj} {nx i : Nat} {a b : Option Nat} {st : PS} (h : PoolIn o nx i a b st) {x : Nat} (hx : PMine i a b x) : x < nx := by
  rcases hx with rfl | e | e
  · exact h.lt
  · exact h.sz.lt e
  · exact h.fr.lt e
/-- new things beside it -/
theorem PoolIn.more {o o' : Tr AObj} {nx nx' i : Nat} {a b : Option Nat} {st : PS} (h : PoolIn o nx i a b st) (hn : nx ≤ nx') (hk : ∀ x, x < nx → o'.get x = o.get x) : PoolIn o' nx' i a b st := h.keep hn fun x hx => hk x (h.mine_lt hx)
theorem IntsIn.at {o : Tr AObj} {nx : Nat} {a : Option Nat} {xs : List Int} (h : IntsIn o nx a xs) {k : Nat} (hk : k < xs.length) : ∃ j rest, a = some j ∧ j < nx ∧ o.get j = some (.row (xs.map (Value.int .i64) ++ rest) 3 1 true) ∧ (xs.map (Value.int .i64) ++ rest)[k]? = some (.int .i64 (xs.getD k 0)) := by
  rcases h with ⟨_, rfl⟩ | ⟨j, rest, e, h1, h2⟩
  · simp at hk
  · refine ⟨j, rest, e, h1, h2, ?_⟩
    rw [List.getElem?_append_left (by simpa using hk), List.getElem?_map, List.getElem?_eq_getElem hk]
    simp [List.getD, hk]

section
variable {O : Helps} {n : Nat} {o : Tr AObj} {nx : Nat} {lg : List Nat} {i : Nat} {a b : Option Nat} {st : PS}
set_option maxHeartbeats 2000000 in
theorem pnone_ok (hO : Clear O) {m : Bool} {cs : List Value} {e z : Nat} {own : Bool} (h : o.get i = some (.row (.bool m :: cs) e z own)) :
    oCall Tryz.prog [] O (n + 1) 60 [.pointer (some ⟨i, 0, none⟩)] ⟨o, nx, lg⟩ = some (.bool !m, ⟨o, nx, lg⟩) := by
  refine of_got ?_
  rw [y_fn (rs := [.tmp 2]) (hO _ (by decide)) Tryz.func60 rfl (by kernel_rfl) rfl rfl]
  repeat (first | with_reducible (first | refine n_on ?_ | refine n_seq ?_ | refine s_else ?_ | refine n_t ?_ | refine n_gt ?_ | refine d_t ?_ | refine n_nil ?_ | refine d_nil ?_ | refine n_block ?_ | refine n_skip ?_ | refine n_bon ?_ | refine n_bback ?_ | refine n_back ?_ | refine n_out ?_ | refine n_bout rfl ?_ | refine n_bfar rfl ?_ | refine n_ret ?_ | refine n_exit ?_ | refine n_label ?_ | refine n_scope ?_ | refine n_son ?_ | refine n_sback ?_) | (with_reducible (first | apply n_region | apply d_region); (simp only [JV, JU, JW, Nat.reduceAdd, Nat.zero_add]; exact rfl)) | (with_reducible (first | apply s_op | apply n_guard | apply n_cond | apply d_guard | apply d_op | apply n_fin | apply n_finb); (simp (maxDischargeDepth := 6) only [sy3.1, zY, qG, qP, qQ, qR, qS, qT, rowAt, ↓jg, ↓ji, Nat.reduceAdd, Nat.reduceEqDiff, ne_eq, jG, Nat.reduceLT, if_true, ite_true, Int.reduceLE, Int.reduceLT, Int.reduceEq, Int.reduceNeg, Int.reduceAdd, Nat.reduceSub, if_false, ite_false, fs_60.1, h, kind_pure, kind_load, kind_fresh, kind_other, jg, ji, undef]; first | exact rfl | exact ⟨rfl, rfl, rfl, rfl⟩); try (with_reducible refine calmK_in ?_; decide +kernel)))
  try exact Ja (by rfl) (by rfl)
theorem hasP_in {st : PS} {id : Int} (hl : st.sizes.length ≤ 65536) (h : hasP st id = true) : ∃ k : Nat, id = (k : Int) + 1 ∧ k < st.sizes.length ∧ 0 ≤ st.sizes.getD k 0 ∧ IntKind.i64.wrap (id - 1) = Int.ofNat k := by
  unfold hasP at h
  simp only [Bool.and_eq_true, decide_eq_true_eq] at h
  obtain ⟨⟨h1, h2⟩, h3⟩ := h
  refine ⟨(id - 1).toNat, by omega, by omega, h3, ?_⟩
  rw [show id - 1 = (((id - 1).toNat : Nat) : Int) from by omega]
  exact wrap_small _ (by omega) (by omega)
set_option maxHeartbeats 4000000 in
theorem pused_ok (hO : Clear O) (h : PoolIn o nx i a b st) : oCall Tryz.prog [] O (n + 2) 19 [.pointer (some ⟨i, 0, none⟩)] ⟨o, nx, lg⟩ = some (.int .i64 st.used, ⟨o, nx, lg⟩) := by
  refine of_got ?_
  obtain ⟨z, cf, hr, hcf⟩ := h.row
  rw [y_fn (rs := [.tmp 2]) (hO _ (by decide)) Tryz.func19 rfl (by kernel_rfl) rfl rfl]
  repeat (first | with_reducible (first | refine n_on ?_ | refine n_seq ?_ | refine s_else ?_ | refine n_t ?_ | refine n_gt ?_ | refine d_t ?_ | refine n_nil ?_ | refine d_nil ?_ | refine n_block ?_ | refine n_skip ?_ | refine n_bon ?_ | refine n_bback ?_ | refine n_back ?_ | refine n_out ?_ | refine n_bout rfl ?_ | refine n_bfar rfl ?_ | refine n_ret ?_ | refine n_exit ?_ | refine n_label ?_ | refine n_scope ?_ | refine n_son ?_ | refine n_sback ?_) | (with_reducible (first | apply n_region | apply d_region); (simp only [JV, JU, JW, Nat.reduceAdd, Nat.zero_add]; exact rfl)) | (with_reducible (first | apply s_op | apply n_guard | apply n_cond | apply d_guard | apply d_op | apply n_fin | apply n_finb); (simp (maxDischargeDepth := 6) only [sy3.1, zY, qG, qP, qQ, qR, qS, qT, rowAt, ↓jg, ↓ji, Nat.reduceAdd, Nat.reduceEqDiff, ne_eq, jG, Nat.reduceLT, if_true, ite_true, Int.reduceLE, Int.reduceLT, Int.reduceEq, Int.reduceNeg, Int.reduceAdd, Nat.reduceSub, if_false, ite_false, fs_19.1, hr, pnone_ok hO hr, kind_pure, kind_load, kind_fresh, kind_other, jg, ji, undef]; first | exact rfl | exact ⟨rfl, rfl, rfl, rfl⟩); try (with_reducible refine calmK_in ?_; decide +kernel)))
  try exact Ja (by rfl) (by rfl)
end
end Go.Proofs.YtdfadipfhcikdaaGreatDoor

namespace Go.Proofs.YtdfadipfhcikdaaGreatDoor
open Go.RowKit
set_option linter.unusedSimpArgs false
set_option linter.unusedVariables false
set_option maxRecDepth 100000

theorem ints_set (l : List Int) (rest : List Value) (k : Nat) (x : Int) (hk : k < l.length) : (l.map (Value.int .i64) ++ rest).set k (.int .i64 x) = (l.set k x).map (Value.int .i64) ++ rest := by
  rw [List.set_append_left _ _ (by simpa using hk), List.map_set]
theorem ints_at (l : List Int) (rest : List Value) (k : Nat) (hk : k < l.length) : (l.map (Value.int .i64) ++ rest)[k]? = some (.int .i64 (l.getD k 0)) := by
  rw [List.getElem?_append_left (by simpa using hk), List.getElem?_map, List.getElem?_eq_getElem hk]
  simp [List.getD, hk]
theorem wrap_pred1 (k : Nat) (h : 0 < k) (h2 : k < 1000000000) : IntKind.i64.wrap (Int.ofNat k - 1) = Int.ofNat (k - 1) := by
  rw [show Int.ofNat k - 1 = ((k - 1 : Nat) : Int) from by simp only [Int.ofNat_eq_natCast]; omega]
  exact wrap_small _ (by omega) (by omega)
theorem wrap_half (k : Nat) (h2 : k < 1000000000) : IntKind.i64.wrap ((Int.ofNat k).tdiv 2) = Int.ofNat (k / 2) := by
  rw [show (Int.ofNat k).tdiv 2 = ((k / 2 : Nat) : Int) from by simp only [Int.ofNat_eq_natCast]; rfl]
  exact wrap_small _ (by omega) (by omega)
end Go.Proofs.YtdfadipfhcikdaaGreatDoor

namespace Go.Proofs.YtdfadipfhcikdaaGreatDoor
open Go.RowKit
set_option linter.unusedSimpArgs false
set_option linter.unusedVariables false
set_option maxRecDepth 100000

section
variable {O : Helps} {n : Nat} {o : Tr AObj} {nx : Nat} {lg : List Nat} {i : Nat} {a b : Option Nat} {st : PS}
set_option maxHeartbeats 4000000 in
theorem plower_ok (hO : Clear O) {c0 c1 c2 c3 c4 : Value} {rest : List Value} {l : List Int} {p1 p2 j m x k e0 e1 e2 z0 z1 z2 : Nat} (hr : o.get i = some (.row [c0, c1, c2, c3, c4, .slice (some ⟨j, 0, none⟩) m 0] e0 z0 true)) (hj : o.get j = some (.row (l.map (Value.int .i64) ++ rest) 3 1 true)) (hm : l.length = m)
    (h1 : o.get p1 = some (.row [.pointer (some ⟨i, 0, none⟩)] e1 z1 true)) (h2 : o.get p2 = some (.row [.int .i64 (.ofNat m)] e2 z2 true)) (hx : x < m ∨ m ≤ k) :
    oCall Tryz.prog [] O (n + 1) 117 [.int .i64 (.ofNat x), .int .i64 (.ofNat k), .pointer (some ⟨p2, 0, none⟩), .pointer (some ⟨p1, 0, none⟩)] ⟨o, nx, lg⟩ = some (.int .i64 (.ofNat (lower l x k)), ⟨o, nx, lg⟩) := by
  refine of_got ?_
  rw [y_fn (rs := [.tmp 6]) (hO _ (by decide)) Tryz.func117 rfl (by kernel_rfl) rfl rfl]
  by_cases hk : k < m
  · have hxm : x < m := by omega
    have c1 := ints_at l rest k (by omega)
    have c2 := ints_at l rest x (by omega)
    have b1 : Nat.blt k m = true := by rw [Nat.blt_eq]; omega
    have b2 : Nat.blt x m = true := by rw [Nat.blt_eq]; omega
    have d1 : decide (Int.ofNat k < Int.ofNat m) = true := decide_eq_true (by simp only [Int.ofNat_eq_natCast]; omega)
    by_cases hlt : l.getD k 0 < l.getD x 0
    · have hL : lower l x k = k := by unfold lower; rw [hm, if_pos ⟨hk, hlt⟩]
      rw [hL]
      repeat (first | with_reducible (first | refine n_on ?_ | refine n_seq ?_ | refine s_else ?_ | refine n_t ?_ | refine n_gt ?_ | refine d_t ?_ | refine n_nil ?_ | refine d_nil ?_ | refine n_block ?_ | refine n_skip ?_ | refine n_bon ?_ | refine n_bback ?_ | refine n_back ?_ | refine n_out ?_ | refine n_bout rfl ?_ | refine n_bfar rfl ?_ | refine n_ret ?_ | refine n_exit ?_ | refine n_label ?_ | refine n_scope ?_ | refine n_son ?_ | refine n_sback ?_) | (with_reducible (first | apply n_region | apply d_region); (simp only [JV, JU, JW, Nat.reduceAdd, Nat.zero_add]; exact rfl)) | (with_reducible (first | apply s_op | apply n_guard | apply n_cond | apply d_guard | apply d_op | apply n_fin | apply n_finb); (simp (maxDischargeDepth := 6) only [sy3.1, zY, qG, qP, qQ, qR, qS, qT, rowAt, ↓jg, ↓ji, Nat.reduceAdd, Nat.reduceEqDiff, ne_eq, jG, Nat.reduceLT, if_true, ite_true, Int.reduceLE, Int.reduceLT, Int.reduceEq, Int.reduceNeg, Int.reduceAdd, Nat.reduceSub, if_false, ite_false, fs_117.1, hr, hj, h1, h2, indexAt, Option.isNone_none, Nat.mul_one, c1, c2, b1, b2, decide_eq_true hk, decide_eq_true hlt, kind_pure, kind_load, kind_fresh, kind_other, jg, ji, undef]; first | exact rfl | exact ⟨rfl, rfl, rfl, rfl⟩); try (with_reducible refine calmK_in ?_; decide +kernel)))
      try exact Ja (by rfl) (by rfl)
    · have hL : lower l x k = x := by unfold lower; rw [if_neg (fun h => hlt h.2)]
      rw [hL]
      repeat (first | with_reducible (first | refine n_on ?_ | refine n_seq ?_ | refine s_else ?_ | refine n_t ?_ | refine n_gt ?_ | refine d_t ?_ | refine n_nil ?_ | refine d_nil ?_ | refine n_block ?_ | refine n_skip ?_ | refine n_bon ?_ | refine n_bback ?_ | refine n_back ?_ | refine n_out ?_ | refine n_bout rfl ?_ | refine n_bfar rfl ?_ | refine n_ret ?_ | refine n_exit ?_ | refine n_label ?_ | refine n_scope ?_ | refine n_son ?_ | refine n_sback ?_) | (with_reducible (first | apply n_region | apply d_region); (simp only [JV, JU, JW, Nat.reduceAdd, Nat.zero_add]; exact rfl)) | (with_reducible (first | apply s_op | apply n_guard | apply n_cond | apply d_guard | apply d_op | apply n_fin | apply n_finb); (simp (maxDischargeDepth := 6) only [sy3.1, zY, qG, qP, qQ, qR, qS, qT, rowAt, ↓jg, ↓ji, Nat.reduceAdd, Nat.reduceEqDiff, ne_eq, jG, Nat.reduceLT, if_true, ite_true, Int.reduceLE, Int.reduceLT, Int.reduceEq, Int.reduceNeg, Int.reduceAdd, Nat.reduceSub, if_false, ite_false, fs_117.1, hr, hj, h1, h2, indexAt, Option.isNone_none, Nat.mul_one, c1, c2, b1, b2, decide_eq_true hk, decide_eq_false hlt, kind_pure, kind_load, kind_fresh, kind_other, jg, ji, undef]; first | exact rfl | exact ⟨rfl, rfl, rfl, rfl⟩); try (with_reducible refine calmK_in ?_; decide +kernel)))
      try exact Ja (by rfl) (by rfl)
  · have hL : lower l x k = x := by unfold lower; rw [hm, if_neg (fun h => hk h.1)]
    rw [hL]
    repeat (first | with_reducible (first | refine n_on ?_ | refine n_seq ?_ | refine s_else ?_ | refine n_t ?_ | refine n_gt ?_ | refine d_t ?_ | refine n_nil ?_ | refine d_nil ?_ | refine n_block ?_ | refine n_skip ?_ | refine n_bon ?_ | refine n_bback ?_ | refine n_back ?_ | refine n_out ?_ | refine n_bout rfl ?_ | refine n_bfar rfl ?_ | refine n_ret ?_ | refine n_exit ?_ | refine n_label ?_ | refine n_scope ?_ | refine n_son ?_ | refine n_sback ?_) | (with_reducible (first | apply n_region | apply d_region); (simp only [JV, JU, JW, Nat.reduceAdd, Nat.zero_add]; exact rfl)) | (with_reducible (first | apply s_op | apply n_guard | apply n_cond | apply d_guard | apply d_op | apply n_fin | apply n_finb); (simp (maxDischargeDepth := 6) only [sy3.1, zY, qG, qP, qQ, qR, qS, qT, rowAt, ↓jg, ↓ji, Nat.reduceAdd, Nat.reduceEqDiff, ne_eq, jG, Nat.reduceLT, if_true, ite_true, Int.reduceLE, Int.reduceLT, Int.reduceEq, Int.reduceNeg, Int.reduceAdd, Nat.reduceSub, if_false, ite_false, fs_117.1, hr, hj, h1, h2, decide_eq_false hk, kind_pure, kind_load, kind_fresh, kind_other, jg, ji, undef]; first | exact rfl | exact ⟨rfl, rfl, rfl, rfl⟩); try (with_reducible refine calmK_in ?_; decide +kernel)))
    try exact Ja (by rfl) (by rfl)
theorem lower_lt {l : List Int} {x k m : Nat} (hm : l.length = m) (hx : x < m) : lower l x k < m := by
  rcases lower_cases l x k with h | ⟨h, h2⟩ <;> omega
theorem wrap_nat (k : Nat) (h : k < 9223372036854775808) : IntKind.i64.wrap (Int.ofNat k) = Int.ofNat k := wrap_small _ (by simp only [Int.ofNat_eq_natCast]; omega) (by simp only [Int.ofNat_eq_natCast]; omega)
set_option maxHeartbeats 16000000 in
theorem pleast_ok (hO : Clear O) (h : PoolIn o nx i a b st) {m : Nat} (hm : st.free.length = m + 1) (hl : m < 1000000) (hn : m < n) :
    Got (oCall Tryz.prog [] O (n + 2) 94 [.pointer (some ⟨i, 0, none⟩)] ⟨o, nx, lg⟩) fun r => ∃ o' nx' lg', r = (.int .i64 (st.free.getD 0 0), ⟨o', nx', lg'⟩) ∧ nx ≤ nx' ∧ PoolIn o' nx' i a b { st with free := heapPop st.free } ∧ (∀ x, x < nx → x ≠ i → b ≠ some x → o'.get x = o.get x) ∧ ∀ y, y ∈ lg → y ∈ lg' := by
  obtain ⟨z, cf, hr, hcf⟩ := h.row
  obtain ⟨j, rest0, rfl, hj, hrow⟩ : ∃ j rest, b = some j ∧ j < nx ∧ o.get j = some (.row (st.free.map (Value.int .i64) ++ rest) 3 1 true) := by
    rcases h.fr with ⟨_, e⟩ | hf
    · rw [e] at hm; simp at hm
    · exact hf
  have hji : j ≠ i := fun e => h.neb (by rw [e])
  obtain rfl : cf = 0 := hcf.zero (fun e => by rw [e] at hm; simp at hm)
  have hij := Ne.symm hji
  have hi := h.lt
  rw [y_fn (rs := [.tmp 2]) (hO _ (by decide)) Tryz.func94 rfl (by kernel_rfl) rfl rfl]
  have hw0 : IntKind.i64.wrap (Int.ofNat (m + 1) - 1) = Int.ofNat m := by
    rw [wrap_pred1 _ (by omega) (by omega)]; rfl
  have ca := ints_at st.free rest0 0 (by omega)
  have cb := ints_at st.free rest0 m (by omega)
  have b0 : Nat.blt 0 (m + 1) = true := by rw [Nat.blt_eq]; omega
  have b1 : Nat.blt m (m + 1) = true := by rw [Nat.blt_eq]; omega
  have t1 := fun x => ints_set st.free rest0 0 x (by omega)
  have s1 : (0 < (st.free.map (Value.int .i64) ++ rest0).length) = True := eq_true (by simp; omega)
  have hsl : ∀ (o : Tr AObj) (nx : Nat) (lg : List Nat), o.get j = some (.row ((st.free.set 0 (st.free.getD m 0)).map (Value.int .i64) ++ rest0) 3 1 true) → aSlice Tryz.prog 90 (.slice (some ⟨j, 0, none⟩) (m + 1) 0) none (some (.int .i64 (.ofNat m))) none ⟨o, nx, lg⟩ = some (.slice (some ⟨j, 0, none⟩) m 0) := fun o nx lg hg => slice_to (H := ⟨o, nx, lg⟩) el_90 hg (by omega)
  rw [hm] at hr
  repeat (first | with_reducible (first | refine n_on ?_ | refine n_seq ?_ | refine s_else ?_ | refine n_t ?_ | refine n_gt ?_ | refine d_t ?_ | refine n_nil ?_ | refine d_nil ?_ | refine n_block ?_ | refine n_skip ?_ | refine n_bon ?_ | refine n_bback ?_ | refine n_back ?_ | refine n_out ?_ | refine n_bout rfl ?_ | refine n_bfar rfl ?_ | refine n_ret ?_ | refine n_exit ?_ | refine n_label ?_ | refine n_scope ?_ | refine n_son ?_ | refine n_sback ?_) | (with_reducible (first | apply n_region | apply d_region); (simp only [JV, JU, JW, Nat.reduceAdd, Nat.zero_add]; exact rfl)) | (with_reducible (first | apply s_op | apply n_guard | apply n_cond | apply d_guard | apply d_op | apply n_fin | apply n_finb); (simp (maxDischargeDepth := 6) only [sy3.1, zY, qG, qP, qQ, qR, qS, qT, rowAt, ↓jg, ↓ji, Nat.reduceAdd, Nat.reduceEqDiff, ne_eq, jG, Nat.reduceLT, if_true, ite_true, Int.reduceLE, Int.reduceLT, Int.reduceEq, Int.reduceNeg, Int.reduceAdd, Nat.reduceSub, if_false, ite_false, fs_94.1, slA, hr, hrow, hw0, ca, cb, b0, b1, t1, s1, hsl, indexAt, Option.isNone_none, Nat.mul_one, Nat.zero_mul, hi, hj, hij, hji, List.map_toArray, kind_pure, kind_load, kind_fresh, kind_other, jg, ji, undef]; first | exact rfl | exact ⟨rfl, rfl, rfl, rfl⟩); try (with_reducible refine calmK_in ?_; decide +kernel)))
  rw [y_loop_eq]
  have hlen0 : ((st.free.set 0 (st.free.getD m 0)).take m).length = m := by simp; omega
  have hpop : heapPop st.free = siftDown ((st.free.set 0 (st.free.getD m 0)).take m) m 0 := by unfold heapPop; rw [show st.free.length - 1 = m from by omega]
  have hsplit : (st.free.set 0 (st.free.getD m 0)).map (Value.int .i64) ++ rest0 = ((st.free.set 0 (st.free.getD m 0)).take m).map (Value.int .i64) ++ (((st.free.set 0 (st.free.getD m 0)).drop m).map (Value.int .i64) ++ rest0) := by
    rw [← List.append_assoc, ← List.map_append, List.take_append_drop]
  refine y_loop (I := fun q e H => ∃ x f o' nx' lg' l' rest, H = (⟨o', nx', lg'⟩ : AHeap) ∧ q = m - x ∧ (x < m ∨ (x = 0 ∧ m = 0)) ∧ m - x ≤ f ∧ l'.length = m ∧ siftDown l' f x = heapPop st.free ∧ nx + 43 ≤ nx' ∧ lg'.all (fun x => Nat.ble nx x) = false ∧
    e.get 1 = some (.pointer (some ⟨nx, 0, none⟩)) ∧ e.get 3 = some (.int .i64 (st.free.getD 0 0)) ∧ e.get 4 = some (.pointer (some ⟨nx + 14, 0, none⟩)) ∧ e.get 5 = some (.func (.func 117) #[] #[.pointer (some ⟨nx + 14, 0, none⟩), .pointer (some ⟨nx, 0, none⟩)]) ∧ e.get 6 = some (.int .i64 (.ofNat x)) ∧
    o'.get nx = some (.row [.pointer (some ⟨i, 0, none⟩)] 43 0 true) ∧ o'.get (nx + 14) = some (.row [.int .i64 (.ofNat m)] 3 0 true) ∧
    o'.get i = some (.row [.bool true, .int .i64 st.bound, .int .i64 st.used, .int .i64 st.count, .slice (slA a) st.sizes.length 0, .slice (some ⟨j, 0, none⟩) m 0] 92 z true) ∧
    o'.get j = some (.row (l'.map (Value.int .i64) ++ rest) 3 1 true) ∧ ∀ x, x < nx → x ≠ i → x ≠ j → o'.get x = o.get x) ?_ m _ _ _ ?_ (by omega)
  · rintro q e H ⟨x, f, o', nx', lg', l', rest, rfl, rfl, hx, hf, hlm, hsift, hnx, hlg, g1, g3, g4, g5, g6, r1, r2, hi', hj', hfr⟩
    have low := fun (q : Nat) (lg : List Nat) (x k : Nat) (hx : x < m ∨ m ≤ k) => plower_ok (n := n) (nx := nx' + q) (lg := lg) hO hi' hj' hlm r1 r2 hx
    have w1 : IntKind.i64.wrap (2 * Int.ofNat x) = Int.ofNat (2 * x) := by
      rw [show 2 * Int.ofNat x = Int.ofNat (2 * x) from by simp]; exact wrap_nat _ (by omega)
    have w2 := wrap_next (2 * x) (by omega)
    have w3 : IntKind.i64.wrap (Int.ofNat (2 * x) + 2) = Int.ofNat (2 * x + 2) := by
      rw [show Int.ofNat (2 * x) + 2 = Int.ofNat (2 * x + 2) from by simp]; exact wrap_nat _ (by omega)
    have hk1 : x < m ∨ m ≤ 2 * x + 1 := by omega
    have hk2 : lower l' x (2 * x + 1) < m ∨ m ≤ 2 * x + 2 := by
      rcases hx with h | h
      · exact .inl (lower_lt hlm h)
      · omega
    have L1 := fun q lg => low q lg x (2 * x + 1) hk1
    have L2 := fun q lg => low q lg (lower l' x (2 * x + 1)) (2 * x + 2) hk2
    obtain ⟨k, hk⟩ : ∃ k, lower l' (lower l' x (2 * x + 1)) (2 * x + 2) = k := ⟨_, rfl⟩
    rw [hk] at L2
    by_cases hkx : k = x
    · have d1 : decide (k = x) = true := decide_eq_true hkx
      repeat (first | with_reducible (first | refine n_on ?_ | refine n_seq ?_ | refine s_else ?_ | refine n_t ?_ | refine n_gt ?_ | refine d_t ?_ | refine n_nil ?_ | refine d_nil ?_ | refine n_block ?_ | refine n_skip ?_ | refine n_bon ?_ | refine n_bback ?_ | refine n_back ?_ | refine n_out ?_ | refine n_bout rfl ?_ | refine n_bfar rfl ?_ | refine n_ret ?_ | refine n_exit ?_ | refine n_label ?_ | refine n_scope ?_ | refine n_son ?_ | refine n_sback ?_) | (with_reducible (first | apply n_region | apply d_region); (simp only [JV, JU, JW, Nat.reduceAdd, Nat.zero_add]; exact rfl)) | (with_reducible (first | apply s_op | apply n_guard | apply n_cond | apply d_guard | apply d_op | apply n_fin | apply n_finb); (simp (maxDischargeDepth := 6) only [sy3.1, zY, qG, qP, qQ, qR, qS, qT, rowAt, ↓jg, ↓ji, Nat.reduceAdd, Nat.reduceEqDiff, ne_eq, jG, Nat.reduceLT, if_true, ite_true, Int.reduceLE, Int.reduceLT, Int.reduceEq, Int.reduceNeg, Int.reduceAdd, Nat.reduceSub, if_false, ite_false, fs_94.1, slA, g1, g3, g4, g5, g6, w1, w2, w3, L1, L2, d1, kind_pure, kind_load, kind_fresh, kind_other, jg, ji, undef]; first | exact rfl | exact ⟨rfl, rfl, rfl, rfl⟩); try (with_reducible refine calmK_in ?_; decide +kernel)))
      have hres : heapPop st.free = l' := by
        rw [← hsift]
        cases f with
        | zero => rfl
        | succ f => rw [siftDown, hk, if_pos hkx]
      have hloud := fun nx2 => leave_log (o := o) (o' := o') (nx' := nx2) (lg := lg) (v := .int .i64 (st.free.getD 0 0)) hlg
      obtain ⟨l2, e2, hmo, _⟩ := hloud _
      refine ⟨_, _, _, e2, by omega, ⟨by omega, ⟨z, 0, ?_, .inl rfl, hcf.2⟩, h.sz.keep (by omega) fun x e => hfr x (h.sz.lt e) (fun e2 => h.nea (by rw [e, e2])) (fun e2 => h.neab x e (by rw [e2])), .inr ⟨j, rest, rfl, by omega, ?_⟩, h.nea, h.neb, h.neab⟩, fun x hx hxi hxj => hfr x hx hxi fun e2 => hxj (by rw [e2]), hmo⟩
      · rw [hi']; simp only [hres, hlm, slA, Option.map_some]
      · rw [hj']; simp only [hres]
    · have d1 : decide (k = x) = false := decide_eq_false hkx
      have hkl : x < k ∧ k < m := by
        rcases low_cases l' x with h | ⟨h, h2⟩ | ⟨h, h2⟩ <;> rw [hk] at h <;> omega
      have c1 := ints_at l' rest k (by omega)
      have c2 := ints_at l' rest x (by omega)
      have b1 : Nat.blt k m = true := by rw [Nat.blt_eq]; omega
      have b2 : Nat.blt x m = true := by rw [Nat.blt_eq]; omega
      have t1 := fun y => ints_set l' rest x y (by omega)
      have t2 := fun y => ints_set (l'.set x (l'.getD k 0)) rest k y (by rw [List.length_set]; omega)
      have s1 : (x < (l'.map (Value.int .i64) ++ rest).length) = True := eq_true (by simp; omega)
      have s2 : (k < ((l'.set x (l'.getD k 0)).map (Value.int .i64) ++ rest).length) = True := eq_true (by simp; omega)
      have e1 : nx ≠ j := by omega
      have e2 : nx + 14 ≠ j := by omega
      repeat (first | with_reducible (first | refine n_on ?_ | refine n_seq ?_ | refine s_else ?_ | refine n_t ?_ | refine n_gt ?_ | refine d_t ?_ | refine n_nil ?_ | refine d_nil ?_ | refine n_block ?_ | refine n_skip ?_ | refine n_bon ?_ | refine n_bback ?_ | refine n_back ?_ | refine n_out ?_ | refine n_bout rfl ?_ | refine n_bfar rfl ?_ | refine n_ret ?_ | refine n_exit ?_ | refine n_label ?_ | refine n_scope ?_ | refine n_son ?_ | refine n_sback ?_) | (with_reducible (first | apply n_region | apply d_region); (simp only [JV, JU, JW, Nat.reduceAdd, Nat.zero_add]; exact rfl)) | (with_reducible (first | apply s_op | apply n_guard | apply n_cond | apply d_guard | apply d_op | apply n_fin | apply n_finb); (simp (maxDischargeDepth := 6) only [sy3.1, zY, qG, qP, qQ, qR, qS, qT, rowAt, ↓jg, ↓ji, Nat.reduceAdd, Nat.reduceEqDiff, ne_eq, jG, Nat.reduceLT, if_true, ite_true, Int.reduceLE, Int.reduceLT, Int.reduceEq, Int.reduceNeg, Int.reduceAdd, Nat.reduceSub, if_false, ite_false, fs_94.1, slA, g1, g3, g4, g5, g6, w1, w2, w3, L1, L2, d1, r1, r2, hi', hj', hij, c1, c2, b1, b2, t1, t2, s1, s2, indexAt, Option.isNone_none, Nat.mul_one, e1, e2, kind_pure, kind_load, kind_fresh, kind_other, jg, ji, undef]; first | exact rfl | exact ⟨rfl, rfl, rfl, rfl⟩); try (with_reducible refine calmK_in ?_; decide +kernel)))
      have hs : ∃ f', f = f' + 1 ∧ siftDown (swp l' x k) f' k = heapPop st.free := by
        cases f with
        | zero => omega
        | succ f => refine ⟨f, rfl, ?_⟩; rw [← hsift, siftDown, hk, if_neg hkx]
      obtain ⟨f', rfl, hs⟩ := hs
      refine ⟨m - k, by omega, k, f', _, _, _, swp l' x k, rest, rfl, rfl, .inl (by omega), by omega, by rw [swp_len, hlm], hs, by omega, ?_, ?_, ?_, ?_, ?_, ?_, ?_, ?_, ?_, ?_, fun x hx hxi hxj => ?_⟩
      · simp only [all_relogL, js, ble_old hj, List.all_nil, Bool.and_false, Bool.false_and]
      · simp only [qC, qD, qE, qF, Tr.get_nil, ne_eq, not_false_eq_true, Nat.reduceEqDiff, g1]
      · simp only [qC, qD, qE, qF, Tr.get_nil, ne_eq, not_false_eq_true, Nat.reduceEqDiff, g3]
      · simp only [qC, qD, qE, qF, Tr.get_nil, ne_eq, not_false_eq_true, Nat.reduceEqDiff, g4]
      · simp only [qC, qD, qE, qF, Tr.get_nil, ne_eq, not_false_eq_true, Nat.reduceEqDiff, g5]
      · simp only [qC, qD, qE, qF, Tr.get_nil, ne_eq, not_false_eq_true, Nat.reduceEqDiff]
      · simp only [qF _ _ _ _ e1]; exact r1
      · simp only [qF _ _ _ _ e2]; exact r2
      · simp only [qF _ _ _ _ hij]; exact hi'
      · rw [qE]; rfl
      · simp only [qF _ _ _ _ hxj]; exact hfr x hx hxi hxj
  · refine ⟨0, m, _, _, _, (st.free.set 0 (st.free.getD m 0)).take m, ((st.free.set 0 (st.free.getD m 0)).drop m).map (Value.int .i64) ++ rest0, rfl, rfl, by omega, by omega, hlen0, hpop.symm, by omega, ?_, ?_, ?_, ?_, ?_, ?_, ?_, ?_, ?_, ?_, fun x hx hxi hxj => ?_⟩
    · simp only [all_relogL, js, ble_old hj, List.all_nil, Bool.and_false, Bool.false_and]
    · simp only [qC, qD, qE, qF, Tr.get_nil, ne_eq, not_false_eq_true, Nat.reduceEqDiff]
    · simp only [qC, qD, qE, qF, Tr.get_nil, ne_eq, not_false_eq_true, Nat.reduceEqDiff]
    · simp only [qC, qD, qE, qF, Tr.get_nil, ne_eq, not_false_eq_true, Nat.reduceEqDiff]
    · simp only [qC, qD, qE, qF, Tr.get_nil, ne_eq, not_false_eq_true, Nat.reduceEqDiff, List.map_toArray, List.map_cons, List.map_nil, qz, Option.getD_some]
    · simp only [qC, qD, qE, qF, Tr.get_nil, ne_eq, not_false_eq_true, Nat.reduceEqDiff]; rfl
    · have e1 : nx ≠ j := by omega
      have e2 : nx ≠ i := by omega
      simp only [qF _ _ _ _ e1, qF _ _ _ _ e2, jn, qC, qD, qE, qF, Tr.get_nil, ne_eq, not_false_eq_true, Nat.reduceEqDiff]
      simp (maxDischargeDepth := 6) only [sy3.1, zY, qG, qP, qQ, qR, qS, qT, rowAt, ↓jg, ↓ji, Nat.reduceAdd, Nat.reduceEqDiff, ne_eq, jG, Nat.reduceLT, if_true, ite_true, Int.reduceLE, Int.reduceLT, Int.reduceEq, Int.reduceNeg, Int.reduceAdd, Nat.reduceSub, if_false, ite_false, fs_94.1]
    · have e1 : nx + 14 ≠ j := by omega
      have e2 : nx + 14 ≠ i := by omega
      simp only [qF _ _ _ _ e1, qF _ _ _ _ e2, qE]
    · rw [qE]
    · rw [qF _ _ _ _ hji, qE, hsplit]
    · rw [qF _ _ _ _ hxi, qF _ _ _ _ hxj, qF _ _ _ _ (by omega), qF _ _ _ _ (by omega), qF _ _ _ _ (by omega)]
end
end Go.Proofs.YtdfadipfhcikdaaGreatDoor

namespace Go.Proofs.YtdfadipfhcikdaaGreatDoor
open Go.RowKit
set_option linter.unusedSimpArgs false
set_option linter.unusedVariables false
set_option maxRecDepth 100000

theorem app_int : appOf Tryz.prog 90 90 = some (3, 1, 8) := by kernel_rfl
theorem build_int (x : Int) : ∀ fid H, buildSliceV Tryz.prog 90 1 [(0, .int .i64 x)] fid H = some (.slice (some ⟨fid, 0, none⟩) 1 2, newRowA fid [.int .i64 x] 3 1 H) := fun fid H => by kernel_rfl
theorem add_int (x : Int) {o : Tr AObj} {nx : Nat} {lg : List Nat} {q c : Nat} (h : o.get q = some (.row [.int .i64 x] 3 1 true)) : addCells 1 (.slice (some ⟨q, 0, none⟩) 1 c) ⟨o, nx, lg⟩ = some (0 + 1, [.int .i64 x]) := by
  simp only [addCells, qH, h]; rfl
theorem iapp_none (x : Int) : ∀ (o : Tr AObj) (nx : Nat) (lg : List Nat) (fid q c : Nat), o.get q = some (.row [.int .i64 x] 3 1 true) → aAppend Tryz.prog 90 90 (.slice none 0 0) (.slice (some ⟨q, 0, none⟩) 1 c) fid ⟨o, nx, lg⟩ = some (.slice (some ⟨fid, 0, none⟩) 1 0, ⟨o.put fid (some (.row [.int .i64 x] 3 1 true)), nx, lg⟩) :=
  fun o nx lg fid q c hg => app_none app_int (add_int x hg) (by decide)
theorem iapp_some (x : Int) (j : Nat) (xs : List Int) (rest : List Value) (hl : xs.length ≤ 1000000) : ∀ (o : Tr AObj) (nx : Nat) (lg : List Nat) (fid q c : Nat), o.get q = some (.row [.int .i64 x] 3 1 true) → o.get j = some (.row (xs.map (Value.int .i64) ++ rest) 3 1 true) →
    aAppend Tryz.prog 90 90 (.slice (some ⟨j, 0, none⟩) xs.length 0) (.slice (some ⟨q, 0, none⟩) 1 c) fid ⟨o, nx, lg⟩ = some (.slice (some ⟨fid, 0, none⟩) (xs.length + 1) 0, ⟨(o.put j none).put fid (some (.row ((xs ++ [x]).map (Value.int .i64)) 3 1 true)), nx, noteId j lg⟩) :=
  fun o nx lg fid q c hg hj =>
    (app_row (n := xs.length) (olds := xs.map (Value.int .i64)) (H := ⟨o, nx, lg⟩) app_int (add_int x hg) hj (cut_in (by rw [List.length_map, Nat.mul_one]) [] rest rfl rfl) (by unfold roomOk; rw [Bool.and_eq_true, Nat.ble_eq, Nat.ble_eq]; omega) (by rfl)).trans (by rw [List.map_append]; rfl)
theorem iapp_cap0 (x : Int) (j : Nat) : ∀ (o : Tr AObj) (nx : Nat) (lg : List Nat) (fid q c : Nat) (cells : List Value) (e z : Nat) (own : Bool), o.get q = some (.row [.int .i64 x] 3 1 true) → o.get j = some (.row cells e z own) →
    aAppend Tryz.prog 90 90 (.slice (some ⟨j, 0, none⟩) 0 1) (.slice (some ⟨q, 0, none⟩) 1 c) fid ⟨o, nx, lg⟩ = some (.slice (some ⟨fid, 0, none⟩) 1 0, ⟨o.put fid (some (.row [.int .i64 x] 3 1 true)), nx, lg⟩) := by
  intro o nx lg fid q c cells e z own hg hj
  rw [appOf_at app_int, add_int x hg]
  have hc : cut cells 0 (0 * 1) = some [] := by simp [cut]
  simp only [qH, hj, hc, show Nat.beq (0 + 1) 0 = false from rfl, show roomOk (0 + (0 + 1)) 8 = true from by decide, show Nat.ble (0 + (0 + 1)) 0 = false from rfl, cond, List.nil_append, Nat.zero_add]
  rfl
theorem PoolIn.put {o : Tr AObj} {nx nx' i : Nat} {a b : Option Nat} {st : PS} (h : PoolIn o nx i a b st) (hn : nx ≤ nx') (us ct : Int) (z : Nat) {cf : Nat} (hcf : PMk a b st.sizes st.free cf) :
    PoolIn (o.put i (some (.row [.bool true, .int .i64 st.bound, .int .i64 us, .int .i64 ct, .slice (slA a) st.sizes.length 0, .slice (slA b) st.free.length cf] 92 z true))) nx' i a b { st with used := us, count := ct } :=
  ⟨Nat.lt_of_lt_of_le h.lt hn, ⟨z, cf, qE _ _ _, hcf⟩, h.sz.keep hn fun j e => qF _ _ _ _ (fun e2 => h.nea (by rw [e, e2])), h.fr.keep hn fun j e => qF _ _ _ _ (fun e2 => h.neb (by rw [e, e2])), h.nea, h.neb, h.neab⟩
/-- what a call that turns the pool leaves -/
def PoolTo (o : Tr AObj) (nx : Nat) (lg : List Nat) (i : Nat) (a b : Option Nat) (st st' : PS) (v : Value) (r : Value × AHeap) : Prop :=
  ∃ o' nx' lg' a' b', r = (v, ⟨o', nx', lg'⟩) ∧ nx ≤ nx' ∧ PoolIn o' nx' i a' b' st' ∧ (∀ x, x < nx → ¬ PMine i a b x → o'.get x = o.get x) ∧ (a' = a ∨ ∃ k, a' = some k ∧ nx ≤ k) ∧ (b' = b ∨ ∃ k, b' = some k ∧ nx ≤ k) ∧ (∀ y, y ∈ lg → y ∈ lg') ∧ (i ∈ lg' ∨ (o' = o ∧ nx' = nx ∧ lg' = lg ∧ a' = a ∧ b' = b ∧ st' = st))
section
variable {O : Helps} {n : Nat} {o : Tr AObj} {nx : Nat} {lg : List Nat} {i : Nat} {a b : Option Nat} {st : PS}
theorem PoolTo.same (h : PoolIn o nx i a b st) (v : Value) : PoolTo o nx lg i a b st st v (v, ⟨o, nx, lg⟩) := ⟨_, _, _, a, b, rfl, Nat.le_refl _, h, fun _ _ _ => rfl, .inl rfl, .inl rfl, fun _ h => h, .inr ⟨rfl, rfl, rfl, rfl, rfl, rfl⟩⟩
set_option maxHeartbeats 16000000 in
theorem ptake_ok (hO : Clear O) (h : PoolIn o nx i a b st) (hG : Good st) (size : Int) (hn : st.sizes.length < n) :
    Got (oCall Tryz.prog [] O (n + 3) 56 [.pointer (some ⟨i, 0, none⟩), .int .i64 size] ⟨o, nx, lg⟩) (PoolTo o nx lg i a b st (takeP st size).1 (.tuple #[.int .i64 (takeP st size).2.1, .int .i64 (takeP st size).2.2])) := by
  obtain ⟨z, cf, hr, hcf⟩ := h.row
  have hi := h.lt
  have hu0 := hG.used0
  have hle := hG.le
  have hb1 := hG.b1
  have hsz := hG.len
  have hcnt := hG.cnt
  rw [y_fn (rs := [.tmp 4, .tmp 5]) (hO _ (by decide)) Tryz.func56 rfl (by kernel_rfl) rfl rfl]
  by_cases h1 : size < 0
  · repeat (first | with_reducible (first | refine n_on ?_ | refine n_seq ?_ | refine s_else ?_ | refine n_t ?_ | refine n_gt ?_ | refine d_t ?_ | refine n_nil ?_ | refine d_nil ?_ | refine n_block ?_ | refine n_skip ?_ | refine n_bon ?_ | refine n_bback ?_ | refine n_back ?_ | refine n_out ?_ | refine n_bout rfl ?_ | refine n_bfar rfl ?_ | refine n_ret ?_ | refine n_exit ?_ | refine n_label ?_ | refine n_scope ?_ | refine n_son ?_ | refine n_sback ?_) | (with_reducible (first | apply n_region | apply d_region); (simp only [JV, JU, JW, Nat.reduceAdd, Nat.zero_add]; exact rfl)) | (with_reducible (first | apply s_op | apply n_guard | apply n_cond | apply d_guard | apply d_op | apply n_fin | apply n_finb); (simp (maxDischargeDepth := 6) only [sy3.1, zY, qG, qP, qQ, qR, qS, qT, rowAt, ↓jg, ↓ji, Nat.reduceAdd, Nat.reduceEqDiff, ne_eq, jG, Nat.reduceLT, if_true, ite_true, Int.reduceLE, Int.reduceLT, Int.reduceEq, Int.reduceNeg, Int.reduceAdd, Nat.reduceSub, if_false, ite_false, fs_56.1, slA, hr, pnone_ok hO hr, decide_eq_true h1, kind_pure, kind_load, kind_fresh, kind_other, jg, ji, undef]; first | exact rfl | exact ⟨rfl, rfl, rfl, rfl⟩); try (with_reducible refine calmK_in ?_; decide +kernel)))
    unfold takeP
    rw [if_pos h1]
    exact quiet_end (by rfl) (by rfl) (.same h _)
  have w0 : IntKind.i64.wrap (st.bound - st.used) = st.bound - st.used := wrap_small _ (by omega) (by omega)
  have d1 := decide_eq_false h1
  by_cases h2 : st.bound - st.used < size
  · repeat (first | with_reducible (first | refine n_on ?_ | refine n_seq ?_ | refine s_else ?_ | refine n_t ?_ | refine n_gt ?_ | refine d_t ?_ | refine n_nil ?_ | refine d_nil ?_ | refine n_block ?_ | refine n_skip ?_ | refine n_bon ?_ | refine n_bback ?_ | refine n_back ?_ | refine n_out ?_ | refine n_bout rfl ?_ | refine n_bfar rfl ?_ | refine n_ret ?_ | refine n_exit ?_ | refine n_label ?_ | refine n_scope ?_ | refine n_son ?_ | refine n_sback ?_) | (with_reducible (first | apply n_region | apply d_region); (simp only [JV, JU, JW, Nat.reduceAdd, Nat.zero_add]; exact rfl)) | (with_reducible (first | apply s_op | apply n_guard | apply n_cond | apply d_guard | apply d_op | apply n_fin | apply n_finb); (simp (maxDischargeDepth := 6) only [sy3.1, zY, qG, qP, qQ, qR, qS, qT, rowAt, ↓jg, ↓ji, Nat.reduceAdd, Nat.reduceEqDiff, ne_eq, jG, Nat.reduceLT, if_true, ite_true, Int.reduceLE, Int.reduceLT, Int.reduceEq, Int.reduceNeg, Int.reduceAdd, Nat.reduceSub, if_false, ite_false, fs_56.1, slA, hr, pnone_ok hO hr, d1, w0, decide_eq_true h2, kind_pure, kind_load, kind_fresh, kind_other, jg, ji, undef]; first | exact rfl | exact ⟨rfl, rfl, rfl, rfl⟩); try (with_reducible refine calmK_in ?_; decide +kernel)))
    unfold takeP
    rw [if_neg h1, if_pos (.inl h2)]
    exact quiet_end (by rfl) (by rfl) (.same h _)
  have d2 := decide_eq_false h2
  by_cases h3 : st.count = 65536
  · repeat (first | with_reducible (first | refine n_on ?_ | refine n_seq ?_ | refine s_else ?_ | refine n_t ?_ | refine n_gt ?_ | refine d_t ?_ | refine n_nil ?_ | refine d_nil ?_ | refine n_block ?_ | refine n_skip ?_ | refine n_bon ?_ | refine n_bback ?_ | refine n_back ?_ | refine n_out ?_ | refine n_bout rfl ?_ | refine n_bfar rfl ?_ | refine n_ret ?_ | refine n_exit ?_ | refine n_label ?_ | refine n_scope ?_ | refine n_son ?_ | refine n_sback ?_) | (with_reducible (first | apply n_region | apply d_region); (simp only [JV, JU, JW, Nat.reduceAdd, Nat.zero_add]; exact rfl)) | (with_reducible (first | apply s_op | apply n_guard | apply n_cond | apply d_guard | apply d_op | apply n_fin | apply n_finb); (simp (maxDischargeDepth := 6) only [sy3.1, zY, qG, qP, qQ, qR, qS, qT, rowAt, ↓jg, ↓ji, Nat.reduceAdd, Nat.reduceEqDiff, ne_eq, jG, Nat.reduceLT, if_true, ite_true, Int.reduceLE, Int.reduceLT, Int.reduceEq, Int.reduceNeg, Int.reduceAdd, Nat.reduceSub, if_false, ite_false, fs_56.1, slA, hr, pnone_ok hO hr, d1, w0, d2, decide_eq_true h3, kind_pure, kind_load, kind_fresh, kind_other, jg, ji, undef]; first | exact rfl | exact ⟨rfl, rfl, rfl, rfl⟩); try (with_reducible refine calmK_in ?_; decide +kernel)))
    unfold takeP
    rw [if_neg h1, if_pos (.inr h3)]
    exact quiet_end (by rfl) (by rfl) (.same h _)
  have d3 := decide_eq_false h3
  have w1 : IntKind.i64.wrap (st.used + size) = st.used + size := wrap_small _ (by omega) (by omega)
  have w2 : IntKind.i64.wrap (st.count + 1) = st.count + 1 := wrap_small _ (by omega) (by omega)
  have h23 : ¬ (st.bound - st.used < size ∨ st.count = 65536) := fun h => h.elim h2 h3
  by_cases h4 : st.free.length = 0
  · have d4 : decide (Int.ofNat st.free.length = 0) = true := decide_eq_true (by rw [h4]; rfl)
    have hT : takeP st size = ({ st with used := st.used + size, count := st.count + 1, sizes := st.sizes ++ [size] }, (st.sizes.length : Int) + 1, 0) := by
      unfold takeP; rw [if_neg h1, if_neg h23, if_pos h4]
    rw [hT]
    dsimp only
    rcases h.sz with ⟨rfl, e⟩ | ⟨j, rest, rfl, hj, hrow⟩
    · rw [e] at hr ⊢
      repeat (first | with_reducible (first | refine n_on ?_ | refine n_seq ?_ | refine s_else ?_ | refine n_t ?_ | refine n_gt ?_ | refine d_t ?_ | refine n_nil ?_ | refine d_nil ?_ | refine n_block ?_ | refine n_skip ?_ | refine n_bon ?_ | refine n_bback ?_ | refine n_back ?_ | refine n_out ?_ | refine n_bout rfl ?_ | refine n_bfar rfl ?_ | refine n_ret ?_ | refine n_exit ?_ | refine n_label ?_ | refine n_scope ?_ | refine n_son ?_ | refine n_sback ?_) | (with_reducible (first | apply n_region | apply d_region); (simp only [JV, JU, JW, Nat.reduceAdd, Nat.zero_add]; exact rfl)) | (with_reducible (first | apply s_op | apply n_guard | apply n_cond | apply d_guard | apply d_op | apply n_fin | apply n_finb); (simp (maxDischargeDepth := 6) only [sy3.1, zY, qG, qP, qQ, qR, qS, qT, rowAt, ↓jg, ↓ji, Nat.reduceAdd, Nat.reduceEqDiff, ne_eq, jG, Nat.reduceLT, if_true, ite_true, Int.reduceLE, Int.reduceLT, Int.reduceEq, Int.reduceNeg, Int.reduceAdd, Nat.reduceSub, if_false, ite_false, fs_56.1, slA, hr, pnone_ok hO hr, d1, w0, d2, d3, w1, w2, d4, hi, st_buildSliceV, build_int, iapp_none size, kind_pure, kind_load, kind_fresh, kind_other, jg, ji, undef]; first | exact rfl | exact ⟨rfl, rfl, rfl, rfl⟩); try (with_reducible refine calmK_in ?_; decide +kernel)))
      have hl0 : st.sizes = [] := e
      refine loud_end (x := i) (by simp only [in_relogL, in_note, true_or, or_true]) hi fun l' hmo hin => ?_
      refine ⟨_, _, _, some (nx + 57), b, rfl, by omega, ⟨by omega, ⟨z, cf, by rw [qE]; rfl, hcf.1, .inr (by simp)⟩, .inr ⟨_, [], rfl, by omega, by (repeat (first | rw [qE] | rw [qF _ _ _ _ (by omega)])); rfl⟩, h.fr.keep (by omega) fun k e => ?_, by intro e; cases e; omega, h.neb, fun k e e2 => by cases e; have := h.fr.lt e2; omega⟩, fun x hx hm => ?_, .inr ⟨_, rfl, by omega⟩, .inl rfl, hmo, .inl (hin i (by simp only [in_relogL, in_note, true_or, or_true]) hi)⟩
      · have := h.fr.lt e
        have : k ≠ i := fun e2 => h.neb (by rw [e, e2])
        (repeat (first | rw [qE] | rw [qF _ _ _ _ (by omega)]))
      · have : x ≠ i := fun e => hm (.inl e)
        (repeat (first | rw [qE] | rw [qF _ _ _ _ (by omega)]))
    · have hji : j ≠ i := fun e => h.nea (by rw [e])
      have hij := Ne.symm hji
      repeat (first | with_reducible (first | refine n_on ?_ | refine n_seq ?_ | refine s_else ?_ | refine n_t ?_ | refine n_gt ?_ | refine d_t ?_ | refine n_nil ?_ | refine d_nil ?_ | refine n_block ?_ | refine n_skip ?_ | refine n_bon ?_ | refine n_bback ?_ | refine n_back ?_ | refine n_out ?_ | refine n_bout rfl ?_ | refine n_bfar rfl ?_ | refine n_ret ?_ | refine n_exit ?_ | refine n_label ?_ | refine n_scope ?_ | refine n_son ?_ | refine n_sback ?_) | (with_reducible (first | apply n_region | apply d_region); (simp only [JV, JU, JW, Nat.reduceAdd, Nat.zero_add]; exact rfl)) | (with_reducible (first | apply s_op | apply n_guard | apply n_cond | apply d_guard | apply d_op | apply n_fin | apply n_finb); (simp (maxDischargeDepth := 6) only [sy3.1, zY, qG, qP, qQ, qR, qS, qT, rowAt, ↓jg, ↓ji, Nat.reduceAdd, Nat.reduceEqDiff, ne_eq, jG, Nat.reduceLT, if_true, ite_true, Int.reduceLE, Int.reduceLT, Int.reduceEq, Int.reduceNeg, Int.reduceAdd, Nat.reduceSub, if_false, ite_false, fs_56.1, slA, hr, pnone_ok hO hr, d1, w0, d2, d3, w1, w2, d4, hi, hj, hji, hij, hrow, st_buildSliceV, build_int, iapp_some size j st.sizes rest (by omega), kind_pure, kind_load, kind_fresh, kind_other, jg, ji, undef]; first | exact rfl | exact ⟨rfl, rfl, rfl, rfl⟩); try (with_reducible refine calmK_in ?_; decide +kernel)))
      refine loud_end (x := i) (by simp only [in_relogL, in_note, true_or, or_true]) hi fun l' hmo hin => ?_
      refine ⟨_, _, _, some (nx + 57), b, rfl, by omega, ⟨by omega, ⟨z, cf, by rw [qE, List.length_append]; rfl, hcf.1, .inr (by simp)⟩, .inr ⟨_, [], rfl, by omega, by rw [List.append_nil]; (repeat (first | rw [qE] | rw [qF _ _ _ _ (by omega)]))⟩, h.fr.keep (by omega) fun k e => ?_, by intro e; cases e; omega, h.neb, fun k e e2 => by cases e; have := h.fr.lt e2; omega⟩, fun x hx hm => ?_, .inr ⟨_, rfl, by omega⟩, .inl rfl, hmo, .inl (hin i (by simp only [in_relogL, in_note, true_or, or_true]) hi)⟩
      · have := h.fr.lt e
        have e1 : k ≠ i := fun e2 => h.neb (by rw [e, e2])
        have e2 : k ≠ j := fun e2 => h.neab j rfl (by rw [e, e2])
        (repeat (first | rw [qE] | rw [qF _ _ _ _ (by omega)]))
      · have e1 : x ≠ i := fun e => hm (.inl e)
        have e2 : x ≠ j := fun e => hm (.inr (.inl (by rw [e])))
        (repeat (first | rw [qE] | rw [qF _ _ _ _ (by omega)]))
  · have d4 : decide (Int.ofNat st.free.length = 0) = false := decide_eq_false (by simp only [Int.ofNat_eq_natCast]; omega)
    repeat (first | with_reducible (first | refine n_on ?_ | refine n_seq ?_ | refine s_else ?_ | refine n_t ?_ | refine n_gt ?_ | refine d_t ?_ | refine n_nil ?_ | refine d_nil ?_ | refine n_block ?_ | refine n_skip ?_ | refine n_bon ?_ | refine n_bback ?_ | refine n_back ?_ | refine n_out ?_ | refine n_bout rfl ?_ | refine n_bfar rfl ?_ | refine n_ret ?_ | refine n_exit ?_ | refine n_label ?_ | refine n_scope ?_ | refine n_son ?_ | refine n_sback ?_) | (with_reducible (first | apply n_region | apply d_region); (simp only [JV, JU, JW, Nat.reduceAdd, Nat.zero_add]; exact rfl)) | (with_reducible (first | apply s_op | apply n_guard | apply n_cond | apply d_guard | apply d_op | apply n_fin | apply n_finb); (simp (maxDischargeDepth := 6) only [sy3.1, zY, qG, qP, qQ, qR, qS, qT, rowAt, ↓jg, ↓ji, Nat.reduceAdd, Nat.reduceEqDiff, ne_eq, jG, Nat.reduceLT, if_true, ite_true, Int.reduceLE, Int.reduceLT, Int.reduceEq, Int.reduceNeg, Int.reduceAdd, Nat.reduceSub, if_false, ite_false, fs_56.1, slA, hr, pnone_ok hO hr, d1, w0, d2, d3, w1, w2, d4, hi, kind_pure, kind_load, kind_fresh, kind_other, jg, ji, undef]; first | exact rfl | exact ⟨rfl, rfl, rfl, rfl⟩); try (with_reducible refine calmK_in ?_; decide +kernel)))
    obtain ⟨m, hm⟩ : ∃ m, st.free.length = m + 1 := ⟨st.free.length - 1, by omega⟩
    obtain ⟨k, hk1, hk2, hk3, hk4⟩ := hG.top (by omega)
    have hfl : st.free.length ≤ st.sizes.length := by omega
    have hT : takeP st size = ({ st with used := st.used + size, count := st.count + 1, sizes := st.sizes.set k size, free := heapPop st.free }, (k : Int) + 1, 0) := by
      unfold takeP; rw [if_neg h1, if_neg h23, if_neg h4, hk1, show ((k : Int) + 1 - 1).toNat = k from by omega]
    rw [hT]
    dsimp only
    obtain ⟨j, rest, rfl, hj, hrow, hc⟩ := h.sz.at hk2
    have hji : j ≠ i := fun e => h.nea (by rw [e])
    have h5 := (h.put (nx' := nx) (Nat.le_refl _) (st.used + size) st.count z hcf).put (nx' := nx + 53) (by omega) (st.used + size) (st.count + 1) z hcf
    refine s_do _ (by
      simp (maxDischargeDepth := 6) only [sy3.1, zY, qG, qP, qQ, qR, qS, qT, rowAt, ↓jg, ↓ji, Nat.reduceAdd, Nat.reduceEqDiff, ne_eq, jG, Nat.reduceLT, if_true, ite_true, Int.reduceLE, Int.reduceLT, Int.reduceEq, Int.reduceNeg, Int.reduceAdd, Nat.reduceSub, if_false, ite_false, fs_56.1]
      exact pleast_ok hO h5 hm (by omega) (by omega)) ?_
    rintro v1 H1 ⟨o1, nx1, lg1, heq, hn1, h6, hfr, hmo1⟩
    cases heq
    obtain ⟨z6, cf6, hr6, hcf6⟩ := h6.row
    obtain ⟨_, rest6, e6, hj6, hrow6, hc6⟩ := h6.sz.at hk2
    cases e6
    have hw5 : IntKind.i64.wrap (st.free.getD 0 0 - 1) = Int.ofNat k := by
      rw [hk1, show (k : Int) + 1 - 1 = (k : Int) from by omega]; exact wrap_small _ (by omega) (by omega)
    have b1 : Nat.blt k st.sizes.length = true := by rw [Nat.blt_eq]; exact hk2
    have t1 := fun y => ints_set st.sizes rest6 k y hk2
    have s1 : (k < (st.sizes.map (Value.int .i64) ++ rest6).length) = True := eq_true (by simp; omega)
    repeat (first | with_reducible (first | refine n_on ?_ | refine n_seq ?_ | refine s_else ?_ | refine n_t ?_ | refine n_gt ?_ | refine d_t ?_ | refine n_nil ?_ | refine d_nil ?_ | refine n_block ?_ | refine n_skip ?_ | refine n_bon ?_ | refine n_bback ?_ | refine n_back ?_ | refine n_out ?_ | refine n_bout rfl ?_ | refine n_bfar rfl ?_ | refine n_ret ?_ | refine n_exit ?_ | refine n_label ?_ | refine n_scope ?_ | refine n_son ?_ | refine n_sback ?_) | (with_reducible (first | apply n_region | apply d_region); (simp only [JV, JU, JW, Nat.reduceAdd, Nat.zero_add]; exact rfl)) | (with_reducible (first | apply s_op | apply n_guard | apply n_cond | apply d_guard | apply d_op | apply n_fin | apply n_finb); (simp (maxDischargeDepth := 6) only [sy3.1, zY, qG, qP, qQ, qR, qS, qT, rowAt, ↓jg, ↓ji, Nat.reduceAdd, Nat.reduceEqDiff, ne_eq, jG, Nat.reduceLT, if_true, ite_true, Int.reduceLE, Int.reduceLT, Int.reduceEq, Int.reduceNeg, Int.reduceAdd, Nat.reduceSub, if_false, ite_false, fs_56.1, slA, hr6, hrow6, hw5, b1, t1, s1, indexAt, Option.isNone_none, Nat.mul_one, kind_pure, kind_load, kind_fresh, kind_other, jg, ji, undef]; first | exact rfl | exact ⟨rfl, rfl, rfl, rfl⟩); try (with_reducible refine calmK_in ?_; decide +kernel)))
    have hjx := h.sz.lt rfl
    refine loud_end (x := i) (by simp only [in_note, hmo1 i (by simp only [in_note, true_or]), or_true]) hi fun l' hmo hin => ?_
    refine ⟨_, _, _, some j, b, by rw [hk1], by omega, ⟨by omega, ⟨z6, cf6, by (repeat (first | rw [qE] | rw [qF _ _ _ _ (by omega)])); rw [hr6]; simp only [List.length_set], hcf6.turn (by simp)⟩, .inr ⟨_, rest6, rfl, by omega, by (repeat (first | rw [qE] | rw [qF _ _ _ _ (by omega)]))⟩, h6.fr.keep (by omega) fun k e => ?_, h.nea, h.neb, h.neab⟩, fun x hx hm => ?_, .inl rfl, .inl rfl, hmo, .inl (hin i (by simp only [in_note, hmo1 i (by simp only [in_note, true_or]), or_true]) hi)⟩
    · have e2 : k ≠ j := fun e2 => h.neab j rfl (by rw [e, e2])
      (repeat (first | rw [qE] | rw [qF _ _ _ _ (by omega)]))
    · have e1 : x ≠ i := fun e => hm (.inl e)
      have e2 : x ≠ j := fun e => hm (.inr (.inl (by rw [e])))
      (repeat (first | rw [qE] | rw [qF _ _ _ _ (by omega)]))
      rw [hfr x (by omega) e1 (fun e => hm (.inr (.inr e)))]
      (repeat (first | rw [qE] | rw [qF _ _ _ _ (by omega)]))
end
end Go.Proofs.YtdfadipfhcikdaaGreatDoor

namespace Go.Proofs.YtdfadipfhcikdaaGreatDoor
open Go.RowKit
set_option linter.unusedSimpArgs false
set_option linter.unusedVariables false
set_option maxRecDepth 100000

section
variable {O : Helps} {n : Nat} {o : Tr AObj} {nx : Nat} {lg : List Nat} {i : Nat} {a b : Option Nat} {st : PS}
theorem wrap_any {x : Int} (h0 : -9223372036854775808 ≤ x) (h1 : x < 9223372036854775808) : IntKind.i64.wrap x = x := by
  rw [IntKind.wrap_i64]
  try unfold wrap64
  omega
theorem usedOf_le {st : PS} (hG : Good st) {k : Nat} (hk : k < st.sizes.length) (h0 : 0 ≤ st.sizes.getD k 0) : st.sizes.getD k 0 ≤ st.used := by
  rw [hG.used]; exact usedOf_at _ _ hk h0
set_option maxHeartbeats 4000000 in
theorem pnew_ok (hO : Clear O) (m : Int) (h0 : 0 ≤ m) (h1 : m ≤ 1073741824) :
    Got (oCall Tryz.prog [] O (n + 1) 12 [.int .i64 m] ⟨o, nx, lg⟩) fun r => ∃ o' nx' lg' i, r = (.tuple #[.pointer (some ⟨i, 0, none⟩), .int .i64 0], ⟨o', nx', lg'⟩) ∧ nx ≤ nx' ∧ nx ≤ i ∧ PoolIn o' nx' i none none ⟨m, 0, 0, [], []⟩ ∧ (∀ x, x < nx → o'.get x = o.get x) ∧ ∀ y, y ∈ lg → y ∈ lg' := by
  rw [y_fn (rs := [.tmp 2, .tmp 3]) (hO _ (by decide)) Tryz.func12 rfl (by kernel_rfl) rfl rfl]
  have d0 : decide (m < 0) = false := decide_eq_false (by omega)
  have d1 : decide (1073741824 < m) = false := decide_eq_false (by omega)
  repeat (first | with_reducible (first | refine n_on ?_ | refine n_seq ?_ | refine s_else ?_ | refine n_t ?_ | refine n_gt ?_ | refine d_t ?_ | refine n_nil ?_ | refine d_nil ?_ | refine n_block ?_ | refine n_skip ?_ | refine n_bon ?_ | refine n_bback ?_ | refine n_back ?_ | refine n_out ?_ | refine n_bout rfl ?_ | refine n_bfar rfl ?_ | refine n_ret ?_ | refine n_exit ?_ | refine n_label ?_ | refine n_scope ?_ | refine n_son ?_ | refine n_sback ?_) | (with_reducible (first | apply n_region | apply d_region); (simp only [JV, JU, JW, Nat.reduceAdd, Nat.zero_add]; exact rfl)) | (with_reducible (first | apply s_op | apply n_guard | apply n_cond | apply d_guard | apply d_op | apply n_fin | apply n_finb); (simp (maxDischargeDepth := 6) only [sy3.1, zY, qG, qP, qQ, qR, qS, qT, rowAt, ↓jg, ↓ji, Nat.reduceAdd, Nat.reduceEqDiff, ne_eq, jG, Nat.reduceLT, if_true, ite_true, Int.reduceLE, Int.reduceLT, Int.reduceEq, Int.reduceNeg, Int.reduceAdd, Nat.reduceSub, if_false, ite_false, fs_12.1, d0, d1, kind_pure, kind_load, kind_fresh, kind_other, jg, ji, undef]; first | exact rfl | exact ⟨rfl, rfl, rfl, rfl⟩); try (with_reducible refine calmK_in ?_; decide +kernel)))
  obtain ⟨l', e, h2, _⟩ := leave_log0 (o := o) (o' := o.put (nx + 10) (some (.row [.bool true, .int .i64 m, .int .i64 0, .int .i64 0, .slice none 0 0, .slice none 0 0] 92 0 true))) (nx := nx) (nx' := nx + 13) (lg := lg) (l := []) (v := .tuple #[.pointer (some ⟨nx + 10, 0, none⟩), .int .i64 0]) (by
    show (Nat.blt (nx + 10) nx && _) = false
    rw [blt_new (by omega)]; rfl)
  exact ⟨_, _, _, _, e, by omega, by omega, ⟨by omega, ⟨0, 0, qE _ _ _, .inl rfl, .inl rfl⟩, .inl ⟨rfl, rfl⟩, .inl ⟨rfl, rfl⟩, (by intro e; cases e), (by intro e; cases e), (by intro j e; cases e)⟩, fun x hx => qF _ _ _ _ (by omega), h2⟩
theorem pnew_bad (hO : Clear O) (m : Int) (h : m < 0 ∨ 1073741824 < m) : oCall Tryz.prog [] O (n + 1) 12 [.int .i64 m] ⟨o, nx, lg⟩ = some (.tuple #[.pointer none, .int .i64 2], ⟨o, nx, lg⟩) := by
  refine of_got ?_
  rw [y_fn (rs := [.tmp 2, .tmp 3]) (hO _ (by decide)) Tryz.func12 rfl (by kernel_rfl) rfl rfl]
  by_cases h0 : m < 0
  · repeat (first | with_reducible (first | refine n_on ?_ | refine n_seq ?_ | refine s_else ?_ | refine n_t ?_ | refine n_gt ?_ | refine d_t ?_ | refine n_nil ?_ | refine d_nil ?_ | refine n_block ?_ | refine n_skip ?_ | refine n_bon ?_ | refine n_bback ?_ | refine n_back ?_ | refine n_out ?_ | refine n_bout rfl ?_ | refine n_bfar rfl ?_ | refine n_ret ?_ | refine n_exit ?_ | refine n_label ?_ | refine n_scope ?_ | refine n_son ?_ | refine n_sback ?_) | (with_reducible (first | apply n_region | apply d_region); (simp only [JV, JU, JW, Nat.reduceAdd, Nat.zero_add]; exact rfl)) | (with_reducible (first | apply s_op | apply n_guard | apply n_cond | apply d_guard | apply d_op | apply n_fin | apply n_finb); (simp (maxDischargeDepth := 6) only [sy3.1, zY, qG, qP, qQ, qR, qS, qT, rowAt, ↓jg, ↓ji, Nat.reduceAdd, Nat.reduceEqDiff, ne_eq, jG, Nat.reduceLT, if_true, ite_true, Int.reduceLE, Int.reduceLT, Int.reduceEq, Int.reduceNeg, Int.reduceAdd, Nat.reduceSub, if_false, ite_false, fs_12.1, decide_eq_true h0, kind_pure, kind_load, kind_fresh, kind_other, jg, ji, undef]; first | exact rfl | exact ⟨rfl, rfl, rfl, rfl⟩); try (with_reducible refine calmK_in ?_; decide +kernel)))
    try exact Ja (by rfl) (by rfl)
  · have h1 : 1073741824 < m := h.resolve_left h0
    repeat (first | with_reducible (first | refine n_on ?_ | refine n_seq ?_ | refine s_else ?_ | refine n_t ?_ | refine n_gt ?_ | refine d_t ?_ | refine n_nil ?_ | refine d_nil ?_ | refine n_block ?_ | refine n_skip ?_ | refine n_bon ?_ | refine n_bback ?_ | refine n_back ?_ | refine n_out ?_ | refine n_bout rfl ?_ | refine n_bfar rfl ?_ | refine n_ret ?_ | refine n_exit ?_ | refine n_label ?_ | refine n_scope ?_ | refine n_son ?_ | refine n_sback ?_) | (with_reducible (first | apply n_region | apply d_region); (simp only [JV, JU, JW, Nat.reduceAdd, Nat.zero_add]; exact rfl)) | (with_reducible (first | apply s_op | apply n_guard | apply n_cond | apply d_guard | apply d_op | apply n_fin | apply n_finb); (simp (maxDischargeDepth := 6) only [sy3.1, zY, qG, qP, qQ, qR, qS, qT, rowAt, ↓jg, ↓ji, Nat.reduceAdd, Nat.reduceEqDiff, ne_eq, jG, Nat.reduceLT, if_true, ite_true, Int.reduceLE, Int.reduceLT, Int.reduceEq, Int.reduceNeg, Int.reduceAdd, Nat.reduceSub, if_false, ite_false, fs_12.1, decide_eq_false h0, decide_eq_true h1, kind_pure, kind_load, kind_fresh, kind_other, jg, ji, undef]; first | exact rfl | exact ⟨rfl, rfl, rfl, rfl⟩); try (with_reducible refine calmK_in ?_; decide +kernel)))
    try exact Ja (by rfl) (by rfl)
end
end Go.Proofs.YtdfadipfhcikdaaGreatDoor
