/- Pool: how it lies in the abstract memory; the calls that only look at it. -/
import Derived.Test.YthnlkahgmbadoaaClr
import Derived.Test.YthnlkahgmbadoaaTabApp
import Derived.Test.YthnlkahgmbadoaaAmGo
import Derived.Test.YthnlkahgmbadoaaPoolPlain
namespace Go.Proofs.Ythnlkahgmbadoaa
open Go.RowKit
set_option linter.unusedSimpArgs false
set_option linter.unusedVariables false
set_option maxRecDepth 100000

/-- numbers in a row -/
def IntsIn (o : Tr AObj) (nx : Nat) (a : Option Nat) (xs : List Int) : Prop :=
  (a = none ∧ xs = []) ∨ ∃ j rest, a = some j ∧ j < nx ∧ o.get j = some (.row (xs.map (Value.int .i64) ++ rest) 3 1 true)
abbrev slA (a : Option Nat) : Option Addr := a.map fun j => ⟨j, 0, none⟩
/-- how the slices are marked: the free numbers' capacity is known where they are a copy of none; sizes that are there are some -/
def PMk (a b : Option Nat) (sizes free : List Int) (c : Nat) : Prop := (c = 0 ∨ (c = 1 ∧ free = [] ∧ b ≠ none)) ∧ (a = none ∨ sizes ≠ [])
theorem PMk.zero {a b : Option Nat} {sizes free : List Int} {c : Nat} (h : PMk a b sizes free c) (hf : free ≠ []) : c = 0 := h.1.resolve_right fun e => hf e.2.1
theorem PMk.turn {a b : Option Nat} {sizes free sizes' : List Int} {c : Nat} (h : PMk a b sizes free c) (hl : sizes'.length = sizes.length) : PMk a b sizes' free c := ⟨h.1, h.2.imp id fun e e2 => e (by rw [e2] at hl; exact List.eq_nil_of_length_eq_zero hl.symm)⟩
theorem PMk.nil {c : Nat} {a : Option Nat} {sizes free : List Int} (h : PMk a none sizes free c) : c = 0 := h.1.resolve_right fun e => e.2.2 rfl
structure PoolIn (o : Tr AObj) (nx i : Nat) (a b : Option Nat) (st : PS) : Prop where
  lt : i < nx
  row : ∃ z c, o.get i = some (.row [.bool true, .int .i64 st.bound, .int .i64 st.used, .int .i64 st.count, .slice (slA a) st.sizes.length 0, .slice (slA b) st.free.length c] 88 z true) ∧ PMk a b st.sizes st.free c
  sz : IntsIn o nx a st.sizes
  fr : IntsIn o nx b st.free
  nea : a ≠ some i
  neb : b ≠ some i
  neab : ∀ j, a = some j → b ≠ some j
/-- a block of the pool's -/
def PMine (i : Nat) (a b : Option Nat) (x : Nat) : Prop := x = i ∨ a = some x ∨ b = some x
theorem IntsIn.keep {o o' : Tr AObj} {nx nx' : Nat} {a : Option Nat} {xs : List Int} (h : IntsIn o nx a xs) (hn : nx ≤ nx') (hk : ∀ j, a = some j → o'.get j = o.get j) : IntsIn o' nx' a xs := by
  rcases h with h | ⟨j, rest, rfl, h1, h2⟩
  · exact .inl h
  · exact .inr ⟨j, rest, rfl, Nat.lt_of_lt_of_le h1 hn, (hk j rfl).trans h2⟩
theorem PoolIn.keep {o o' : Tr AObj} {nx nx' i : Nat} {a b : Option Nat} {st : PS} (h : PoolIn o nx i a b st) (hn : nx ≤ nx') (hk : ∀ x, PMine i a b x → o'.get x = o.get x) : PoolIn o' nx' i a b st := by
  obtain ⟨z, cf, hr, hcf⟩ := h.row
  exact ⟨Nat.lt_of_lt_of_le h.lt hn, ⟨z, cf, (hk i (.inl rfl)).trans hr, hcf⟩, h.sz.keep hn fun j e => hk j (.inr (.inl e)), h.fr.keep hn fun j e => hk j (.inr (.inr e)), h.nea, h.neb, h.neab⟩
theorem IntsIn.lt {o : Tr AObj} {nx : Nat} {a : Option Nat} {xs : List Int} (h : IntsIn o nx a xs) {j : Nat} (e : a = some j) : j < nx := by
  rcases h with ⟨rfl, _⟩ | ⟨j', rest, rfl, h1, _⟩
  · cases e
  · cases e; exact h1
theorem PoolIn.mine_lt {o : Tr AObj} {nx i : Nat} {a b : Option Nat} {st : PS} (h : PoolIn o nx i a b st) {x : Nat} (hx : PMine i a b x) : x < nx := by
  rcases hx with rfl | e | e
  · exact h.lt
  · exact h.sz.lt e
  · exact h.fr.lt e
/-- new things beside it -/
theorem PoolIn.more {o o' : Tr AObj} {nx nx' i : Nat} {a b : Option Nat} {st : PS} (h : PoolIn o nx i a b st) (hn : nx ≤ nx') (hk : ∀ x, x < nx → o'.get x = o.get x) : PoolIn o' nx' i a b st := h.keep hn fun x hx => hk x (h.mine_lt hx)
theorem IntsIn.at {o : Tr AObj} {nx : Nat} {a : Option Nat} {xs : List Int} (h : IntsIn o nx a xs) {k : Nat} (hk : k < xs.length) : ∃ j rest, a = some j ∧ j < nx ∧ o.get j = some (.row (xs.map (Value.int .i64) ++ rest) 3 1 true) ∧ (xs.map (Value.int .i64) ++ rest)[k]? = some (.int .i64 (xs.getD k 0)) := by
  rcases h with ⟨_, rfl⟩ | ⟨j, rest, e, h1, h2⟩
  · simp at hk
  · refine ⟨j, rest, e, h1, h2, ?_⟩
    rw [List.getElem?_append_left (by simpa using hk), List.getElem?_map, List.getElem?_eq_getElem hk]
    simp [List.getD, hk]

section
variable {O : Helps} {n : Nat} {o : Tr AObj} {nx : Nat} {lg : List Nat} {i : Nat} {a b : Option Nat} {st : PS}
set_option maxHeartbeats 2000000 in
theorem pnone_ok (hO : Clear O) {m : Bool} {cs : List Value} {e z : Nat} {own : Bool} (h : o.get i = some (.row (.bool m :: cs) e z own)) :
    oCall Try.prog [] O (n + 1) 48 [.pointer (some ⟨i, 0, none⟩)] ⟨o, nx, lg⟩ = some (.bool !m, ⟨o, nx, lg⟩) := by
  refine of_got ?_
  rw [y_fn (rs := [.tmp 2]) (hO _ (by decide)) Try.func48 rfl (by kernel_rfl) rfl rfl]
  repeat (first | with_reducible (first | refine n_on ?_ | refine n_seq ?_ | refine s_else ?_ | refine n_t ?_ | refine n_gt ?_ | refine d_t ?_ | refine n_nil ?_ | refine d_nil ?_ | refine n_block ?_ | refine n_skip ?_ | refine n_bon ?_ | refine n_bback ?_ | refine n_back ?_ | refine n_out ?_ | refine n_bout rfl ?_ | refine n_bfar rfl ?_ | refine n_ret ?_ | refine n_exit ?_ | refine n_label ?_ | refine n_scope ?_ | refine n_son ?_ | refine n_sback ?_) | (with_reducible (first | apply n_region | apply d_region); (simp only [JV, JU, JW, Nat.reduceAdd, Nat.zero_add]; exact rfl)) | (with_reducible (first | apply s_op | apply n_guard | apply n_cond | apply d_guard | apply d_op | apply n_fin | apply n_finb); (simp (maxDischargeDepth := 6) only [sy3.1, zY, qG, qP, qQ, qR, qS, qT, rowAt, ↓jg, ↓ji, Nat.reduceAdd, Nat.reduceEqDiff, ne_eq, jG, Nat.reduceLT, if_true, ite_true, Int.reduceLE, Int.reduceLT, Int.reduceEq, Int.reduceNeg, Int.reduceAdd, Nat.reduceSub, if_false, ite_false, fs_48.1, h, kind_pure, kind_load, kind_fresh, kind_other, jg, ji, undef]; first | exact rfl | exact ⟨rfl, rfl, rfl, rfl⟩); try (with_reducible refine calmK_in ?_; decide +kernel)))
  try exact Ja (by rfl) (by rfl)
theorem hasP_in {st : PS} {id : Int} (hl : st.sizes.length ≤ 65536) (h : hasP st id = true) : ∃ k : Nat, id = (k : Int) + 1 ∧ k < st.sizes.length ∧ 0 ≤ st.sizes.getD k 0 ∧ IntKind.i64.wrap (id - 1) = Int.ofNat k := by
  unfold hasP at h
  simp only [Bool.and_eq_true, decide_eq_true_eq] at h
  obtain ⟨⟨h1, h2⟩, h3⟩ := h
  refine ⟨(id - 1).toNat, by omega, by omega, h3, ?_⟩
  rw [show id - 1 = (((id - 1).toNat : Nat) : Int) from by omega]
  exact wrap_small _ (by omega) (by omega)
set_option maxHeartbeats 4000000 in
theorem pused_ok (hO : Clear O) (h : PoolIn o nx i a b st) : oCall Try.prog [] O (n + 2) 36 [.pointer (some ⟨i, 0, none⟩)] ⟨o, nx, lg⟩ = some (.int .i64 st.used, ⟨o, nx, lg⟩) := by
  refine of_got ?_
  obtain ⟨z, cf, hr, hcf⟩ := h.row
  rw [y_fn (rs := [.tmp 2]) (hO _ (by decide)) Try.func36 rfl (by kernel_rfl) rfl rfl]
  repeat (first | with_reducible (first | refine n_on ?_ | refine n_seq ?_ | refine s_else ?_ | refine n_t ?_ | refine n_gt ?_ | refine d_t ?_ | refine n_nil ?_ | refine d_nil ?_ | refine n_block ?_ | refine n_skip ?_ | refine n_bon ?_ | refine n_bback ?_ | refine n_back ?_ | refine n_out ?_ | refine n_bout rfl ?_ | refine n_bfar rfl ?_ | refine n_ret ?_ | refine n_exit ?_ | refine n_label ?_ | refine n_scope ?_ | refine n_son ?_ | refine n_sback ?_) | (with_reducible (first | apply n_region | apply d_region); (simp only [JV, JU, JW, Nat.reduceAdd, Nat.zero_add]; exact rfl)) | (with_reducible (first | apply s_op | apply n_guard | apply n_cond | apply d_guard | apply d_op | apply n_fin | apply n_finb); (simp (maxDischargeDepth := 6) only [sy3.1, zY, qG, qP, qQ, qR, qS, qT, rowAt, ↓jg, ↓ji, Nat.reduceAdd, Nat.reduceEqDiff, ne_eq, jG, Nat.reduceLT, if_true, ite_true, Int.reduceLE, Int.reduceLT, Int.reduceEq, Int.reduceNeg, Int.reduceAdd, Nat.reduceSub, if_false, ite_false, fs_36.1, hr, pnone_ok hO hr, kind_pure, kind_load, kind_fresh, kind_other, jg, ji, undef]; first | exact rfl | exact ⟨rfl, rfl, rfl, rfl⟩); try (with_reducible refine calmK_in ?_; decide +kernel)))
  try exact Ja (by rfl) (by rfl)
end
end Go.Proofs.Ythnlkahgmbadoaa
