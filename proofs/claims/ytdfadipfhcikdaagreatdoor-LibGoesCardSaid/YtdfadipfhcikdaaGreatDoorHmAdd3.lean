/- Heap: objects as plain data, and how they lie in the abstract memory. -/
import Derived.Test.YtdfadipfhcikdaaGreatDoorTabDef
import Derived.Test.YtdfadipfhcikdaaGreatDoorPmNew
namespace Go.Proofs.YtdfadipfhcikdaaGreatDoor
open Go.RowKit
set_option linter.unusedSimpArgs false
set_option linter.unusedVariables false
set_option maxRecDepth 100000

/-- an object -/
structure Ob where
  kind : Int
  serial : Int
  text : ByteArray
  tab : List (VV × VV)
  mt : VV
  proto : Int
  cells : List VV
  has : VV
structure HS where
  max : Int
  made : Int
  watch : Bool
  pool : PS
  objs : List (Int × Ob)
  texts : List (ByteArray × Int)
  noted : List Int
/-- where a heap's parts lie -/
structure HB where
  i : Nat
  p : Nat
  a : Option Nat
  b : Option Nat
  ma : Nat
  mt : Nat
  mn : Nat
  bl : Int → Nat

/-! ### keys -/
theorem key_int : KeyBy Tryz.prog 3 (Value.int .i64) where
  chk b x := by kernel_rfl
  flat x := rfl
  bits x := by simp [Instr.sameBits]
  desc := ⟨_, Tryz.underlying3, .inl fun x y => by simp only [Instr.sameNow]; by_cases e : x = y <;> simp [e]⟩
theorem ba_beq (x y : ByteArray) : (x == y) = decide (x = y) := by
  obtain ⟨a⟩ := x
  obtain ⟨b⟩ := y
  have e : ((⟨a⟩ : ByteArray) == ⟨b⟩) = (a == b) := rfl
  rw [e]
  by_cases h : a = b <;> simp [h]
theorem key_str : KeyBy Tryz.prog 9 Value.string where
  chk b x := by kernel_rfl
  flat x := rfl
  bits x := by simp only [Instr.sameBits]; rw [ba_beq]; exact decide_eq_true rfl
  desc := ⟨_, Tryz.underlying9, .inl fun x y => by simp only [Instr.sameNow]; rw [ba_beq]⟩

/-! ### rows -/
def vvCells (l : List VV) : List Value := l.flatMap fun v => [.int .u8 v.1, .int .i64 v.2]
/-- values in a row -/
def ValsIn (o : Tr AObj) (nx : Nat) (a : Option Nat) (l : List VV) : Prop :=
  (a = none ∧ l = []) ∨ ∃ j rest, a = some j ∧ j < nx ∧ o.get j = some (.row (vvCells l ++ rest) 29 2 true)
theorem ValsIn.keep {o o' : Tr AObj} {nx nx' : Nat} {a : Option Nat} {l : List VV} (h : ValsIn o nx a l) (hn : nx ≤ nx') (hk : ∀ j, a = some j → o'.get j = o.get j) : ValsIn o' nx' a l := by
  rcases h with h | ⟨j, rest, rfl, h1, h2⟩
  · exact .inl h
  · exact .inr ⟨j, rest, rfl, Nat.lt_of_lt_of_le h1 hn, (hk j rfl).trans h2⟩
abbrev obRow (ob : Ob) (tp sp : Option Addr) (ca : Option Nat) (cc : Nat) : List Value :=
  [.int .u8 ob.kind, .int .i64 ob.serial, .string ob.text, .pointer tp, .int .u8 ob.mt.1, .int .i64 ob.mt.2, .int .i64 ob.proto, .slice (slA ca) ob.cells.length cc, .int .u8 ob.has.1, .int .i64 ob.has.2, .pointer sp]
/-- an object in its blocks, which are marked in w -/
structure ObIn (o : Tr AObj) (nx : Nat) (w : Nat → Nat) (d : Int) (b : Nat) (ob : Ob) : Prop where
  lt : b < nx
  own : w b = 8 + 5 * d.toNat
  ex : ∃ tp sp ca cc z, o.get b = some (.row (obRow ob tp sp ca cc) 57 z true) ∧ ValsIn o nx ca ob.cells ∧ (cc = 0 ∨ (cc = 1 ∧ ob.cells = [] ∧ ca ≠ none)) ∧ (∀ q, ca = some q → w q = 9 + 5 * d.toNat) ∧
    (ob.kind = 5 → ∃ ti tm ta, tp = some ⟨ti, 0, none⟩ ∧ TabIn o nx ti tm ta ob.tab ∧ w ti = 10 + 5 * d.toNat ∧ w tm = 11 + 5 * d.toNat ∧ ∀ q, ta = some q → w q = 12 + 5 * d.toNat)
/-- blocks of one object -/
def isOb (w : Nat → Nat) (d : Int) (x : Nat) : Prop := 8 + 5 * d.toNat ≤ w x ∧ w x ≤ 12 + 5 * d.toNat
theorem ObIn.keep {o o' : Tr AObj} {nx nx' : Nat} {w w' : Nat → Nat} {d : Int} {b : Nat} {ob : Ob} (h : ObIn o nx w d b ob) (hn : nx ≤ nx') (hk : ∀ x, x < nx → isOb w d x → o'.get x = o.get x ∧ w' x = w x) : ObIn o' nx' w' d b ob := by
  obtain ⟨tp, sp, ca, cc, z, h1, h2, hcc, h3, h4⟩ := h.ex
  have hb := hk b h.lt ⟨by rw [h.own]; omega, by rw [h.own]; omega⟩
  have hca : ∀ q, ca = some q → q < nx ∧ isOb w d q := fun q e => ⟨by
    rcases h2 with ⟨e2, _⟩ | ⟨j, _, e2, hj, _⟩
    · rw [e] at e2; cases e2
    · rw [e] at e2; cases e2; exact hj, by rw [isOb, h3 q e]; omega⟩
  refine ⟨Nat.lt_of_lt_of_le h.lt hn, by rw [hb.2]; exact h.own, tp, sp, ca, cc, z, by rw [hb.1]; exact h1, h2.keep hn fun q e => (hk q (hca q e).1 (hca q e).2).1, hcc, fun q e => by rw [(hk q (hca q e).1 (hca q e).2).2]; exact h3 q e, fun h5 => ?_⟩
  obtain ⟨ti, tm, ta, e1, e2, e3, e4, e5⟩ := h4 h5
  have k1 := hk ti e2.lt (by rw [isOb, e3]; omega)
  have k2 := hk tm e2.ltm (by rw [isOb, e4]; omega)
  have k3 : ∀ q, ta = some q → o'.get q = o.get q ∧ w' q = w q := fun q e => hk q (e2.mine_lt (.inr (.inr e))) (by rw [isOb, e5 q e]; omega)
  refine ⟨ti, tm, ta, e1, e2.keep hn fun x hx => ?_, by rw [k1.2]; exact e3, by rw [k2.2]; exact e4, fun q e => by rw [(k3 q e).2]; exact e5 q e⟩
  rcases hx with rfl | rfl | hx
  · exact k1.1
  · exact k2.1
  · exact (k3 x hx).1
abbrev objKV (B : HB) (l : List (Int × Ob)) : List (Int × Value) := l.map fun q => (q.1, .pointer (some ⟨B.bl q.1, 0, none⟩))
abbrev heapRow (B : HB) (hs : HS) : List Value := [.int .i64 hs.max, .pointer (some ⟨B.p, 0, none⟩), .map (some B.ma), .map (some B.mt), .int .i64 hs.made, .bool hs.watch, .map (some B.mn)]
/-- a heap in its blocks -/
structure HeapIn (o : Tr AObj) (nx : Nat) (w : Nat → Nat) (B : HB) (hs : HS) : Prop where
  wlt : ∀ x, w x ≠ 0 → x < nx
  wi : w B.i = 1
  wp : w B.p = 2
  wa : ∀ q, B.a = some q → w q = 3
  wb : ∀ q, B.b = some q → w q = 4
  wma : w B.ma = 5
  wmt : w B.mt = 6
  wmn : w B.mn = 7
  row : ∃ z, o.get B.i = some (.row (heapRow B hs) 50 z true)
  pool : PoolIn o nx B.p B.a B.b hs.pool
  all : ∃ es c, o.get B.ma = some (.map es c) ∧ MapIs (Value.int .i64) es (objKV B hs.objs)
  obs : ∀ q ∈ hs.objs, ObIn o nx w q.1 (B.bl q.1) q.2
  texts : ∃ es c, o.get B.mt = some (.map es c) ∧ MapIs Value.string es (hs.texts.map fun q => (q.1, .int .i64 q.2))
  noted : ∃ es c, o.get B.mn = some (.map es c) ∧ MapIs (Value.int .i64) es (hs.noted.map fun q => (q, .bool true))
theorem HeapIn.lt {o : Tr AObj} {nx : Nat} {w : Nat → Nat} {B : HB} {hs : HS} (h : HeapIn o nx w B hs) : B.i < nx := h.wlt _ (by rw [h.wi]; decide)
theorem HeapIn.keep {o o' : Tr AObj} {nx nx' : Nat} {w w' : Nat → Nat} {B : HB} {hs : HS} (h : HeapIn o nx w B hs) (hn : nx ≤ nx') (hlt : ∀ x, w' x ≠ 0 → x < nx') (hk : ∀ x, w x ≠ 0 → o'.get x = o.get x ∧ w' x = w x) : HeapIn o' nx' w' B hs := by
  have k : ∀ x n, w x = n + 1 → o'.get x = o.get x ∧ w' x = n + 1 := fun x n e => by
    have := hk x (by omega); exact ⟨this.1, by omega⟩
  refine ⟨hlt, (k _ 0 h.wi).2, (k _ 1 h.wp).2, fun q e => (k _ 2 (h.wa q e)).2, fun q e => (k _ 3 (h.wb q e)).2, (k _ 4 h.wma).2, (k _ 5 h.wmt).2, (k _ 6 h.wmn).2, ?_, h.pool.keep hn ?_, ?_, fun q hq => (h.obs q hq).keep hn fun x hx hob => hk x (by have := hob.1; omega), ?_, ?_⟩
  · rw [(k _ 0 h.wi).1]; exact h.row
  · rintro x (rfl | e | e)
    · exact (k _ 1 h.wp).1
    · exact (k _ 2 (h.wa x e)).1
    · exact (k _ 3 (h.wb x e)).1
  · rw [(k _ 4 h.wma).1]; exact h.all
  · rw [(k _ 5 h.wmt).1]; exact h.texts
  · rw [(k _ 6 h.wmn).1]; exact h.noted
/-- new things beside it -/
theorem HeapIn.more {o o' : Tr AObj} {nx nx' : Nat} {w : Nat → Nat} {B : HB} {hs : HS} (h : HeapIn o nx w B hs) (hn : nx ≤ nx') (hk : ∀ x, x < nx → o'.get x = o.get x) : HeapIn o' nx' w B hs :=
  h.keep hn (fun x hx => Nat.lt_of_lt_of_le (h.wlt x hx) hn) fun x hx => ⟨hk x (h.wlt x hx), rfl⟩
end Go.Proofs.YtdfadipfhcikdaaGreatDoor

namespace Go.Proofs.YtdfadipfhcikdaaGreatDoor
open Go.RowKit
set_option linter.unusedSimpArgs false
set_option linter.unusedVariables false
set_option maxRecDepth 100000

def holdsK (k : Int) : Bool := (decide (4 ≤ k) && decide (k ≤ 6)) || (decide (k = 8) || decide (k = 9))
def lookO (l : List (Int × Ob)) (d : Int) : Option Ob := (l.find? (fun q => decide (q.1 = d))).map (·.2)
def findO (hs : HS) (v : VV) : Option Ob := if holdsK v.1 = true then (match lookO hs.objs v.2 with
  | some ob => if ob.kind = v.1 then some ob else none
  | none => none) else none
def keepO (hs : HS) (v : VV) : Bool := if 8 < v.1 ∨ (v.1 ≤ 2 ∧ v.2 ≠ 0) then false else if holdsK v.1 = true then (findO hs v).isSome else true
theorem kv_obj (B : HB) (d : Int) : ∀ (l : List (Int × Ob)) (i : Nat), (lookO l d = none ∧ findK d (objKV B l) i = none) ∨ ∃ ob r, lookO l d = some ob ∧ (d, ob) ∈ l ∧ findK d (objKV B l) i = some (r, .pointer (some ⟨B.bl d, 0, none⟩))
  | [], i => .inl ⟨rfl, rfl⟩
  | q :: l, i => by
    by_cases e : q.1 = d
    · refine .inr ⟨q.2, i, ?_, ?_, ?_⟩
      · unfold lookO; rw [List.find?_cons_of_pos (by simp [e])]; rfl
      · rw [← e]; simp
      · simp only [objKV, List.map_cons, findK, e, if_true]
    · rcases kv_obj B d l (i + 1) with ⟨h1, h2⟩ | ⟨ob, r, h1, h2, h3⟩
      · refine .inl ⟨?_, ?_⟩
        · unfold lookO at h1 ⊢; rw [List.find?_cons_of_neg (by simp [e])]; exact h1
        · simp only [objKV, List.map_cons, findK]; rw [if_neg (fun h => e h.symm)]; exact h2
      · refine .inr ⟨ob, r, ?_, List.mem_cons_of_mem _ h2, ?_⟩
        · unfold lookO at h1 ⊢; rw [List.find?_cons_of_neg (by simp [e])]; exact h1
        · simp only [objKV, List.map_cons, findK]; rw [if_neg (fun h => e h.symm)]; exact h3
theorem look_mem {l : List (Int × Ob)} {d : Int} {ob : Ob} (h : lookO l d = some ob) : (d, ob) ∈ l := by
  unfold lookO at h
  obtain ⟨q, hq, rfl⟩ := Option.map_eq_some_iff.1 h
  have h1 := List.mem_of_find?_eq_some hq
  have h2 := List.find?_some hq
  simp only [decide_eq_true_eq] at h2
  rw [← h2]; exact h1
section
variable {O : Helps} {n : Nat} {o : Tr AObj} {nx : Nat} {lg : List Nat} {w : Nat → Nat} {B : HB} {hs : HS}
set_option maxHeartbeats 4000000 in
theorem hright_ok (hO : Clear O) {i m p : Nat} {c0 c3 c4 c5 c6 : Value} {e z : Nat} {own : Bool} : ∀ (o : Tr AObj) (nx : Nat) (lg : List Nat), o.get i = some (.row [c0, .pointer (some ⟨p, 0, none⟩), .map (some m), c3, c4, c5, c6] e z own) → oCall Tryz.prog [] O (n + 1) 13 [.pointer (some ⟨i, 0, none⟩)] ⟨o, nx, lg⟩ = some (.bool true, ⟨o, nx, lg⟩) := by
  intro o nx lg h
  refine of_got ?_
  rw [y_fn (rs := [.tmp 2]) (hO _ (by decide)) Tryz.func13 rfl (by kernel_rfl) rfl rfl]
  repeat (first | with_reducible (first | refine n_on ?_ | refine n_seq ?_ | refine s_else ?_ | refine n_t ?_ | refine n_gt ?_ | refine d_t ?_ | refine n_nil ?_ | refine d_nil ?_ | refine n_block ?_ | refine n_skip ?_ | refine n_bon ?_ | refine n_bback ?_ | refine n_back ?_ | refine n_out ?_ | refine n_bout rfl ?_ | refine n_bfar rfl ?_ | refine n_ret ?_ | refine n_exit ?_ | refine n_label ?_ | refine n_scope ?_ | refine n_son ?_ | refine n_sback ?_) | (with_reducible (first | apply n_region | apply d_region); (simp only [JV, JU, JW, Nat.reduceAdd, Nat.zero_add]; exact rfl)) | (with_reducible (first | apply s_op | apply n_guard | apply n_cond | apply d_guard | apply d_op | apply n_fin | apply n_finb); (simp (maxDischargeDepth := 6) only [sy3.1, zY, qG, qP, qQ, qR, qS, qT, rowAt, ↓jg, ↓ji, Nat.reduceAdd, Nat.reduceEqDiff, ne_eq, jG, Nat.reduceLT, if_true, ite_true, Int.reduceLE, Int.reduceLT, Int.reduceEq, Int.reduceNeg, Int.reduceAdd, Nat.reduceSub, if_false, ite_false, fs_13.1, h, kind_pure, kind_load, kind_fresh, kind_other, jg, ji, undef]; first | exact rfl | exact ⟨rfl, rfl, rfl, rfl⟩); try (with_reducible refine calmK_in ?_; decide +kernel)))
  try exact Ja (by rfl) (by rfl)
set_option maxHeartbeats 4000000 in
theorem holds_ok (hO : Clear O) (v : VV) : ∀ (o : Tr AObj) (nx : Nat) (lg : List Nat), oCall Tryz.prog [] O (n + 1) 58 [.agg #[.int .u8 v.1, .int .i64 v.2]] ⟨o, nx, lg⟩ = some (.bool (holdsK v.1), ⟨o, nx, lg⟩) := by
  intro o nx lg
  refine of_got ?_
  rw [y_fn (rs := [.tmp 2]) (hO _ (by decide)) Tryz.func58 rfl (by kernel_rfl) rfl rfl]
  unfold holdsK
  by_cases h1 : 4 ≤ v.1
  · by_cases h2 : v.1 ≤ 6
    · rw [decide_eq_true h1, decide_eq_true h2]
      repeat (first | with_reducible (first | refine n_on ?_ | refine n_seq ?_ | refine s_else ?_ | refine n_t ?_ | refine n_gt ?_ | refine d_t ?_ | refine n_nil ?_ | refine d_nil ?_ | refine n_block ?_ | refine n_skip ?_ | refine n_bon ?_ | refine n_bback ?_ | refine n_back ?_ | refine n_out ?_ | refine n_bout rfl ?_ | refine n_bfar rfl ?_ | refine n_ret ?_ | refine n_exit ?_ | refine n_label ?_ | refine n_scope ?_ | refine n_son ?_ | refine n_sback ?_) | (with_reducible (first | apply n_region | apply d_region); (simp only [JV, JU, JW, Nat.reduceAdd, Nat.zero_add]; exact rfl)) | (with_reducible (first | apply s_op | apply n_guard | apply n_cond | apply d_guard | apply d_op | apply n_fin | apply n_finb); (simp (maxDischargeDepth := 6) only [sy3.1, zY, qG, qP, qQ, qR, qS, qT, rowAt, ↓jg, ↓ji, Nat.reduceAdd, Nat.reduceEqDiff, ne_eq, jG, Nat.reduceLT, if_true, ite_true, Int.reduceLE, Int.reduceLT, Int.reduceEq, Int.reduceNeg, Int.reduceAdd, Nat.reduceSub, if_false, ite_false, fs_58.1, decide_eq_true h1, decide_eq_true h2, kind_pure, kind_load, kind_fresh, kind_other, jg, ji, undef]; first | exact rfl | exact ⟨rfl, rfl, rfl, rfl⟩); try (with_reducible refine calmK_in ?_; decide +kernel)))
      try exact Ja (by rfl) (by rfl)
    · by_cases h3 : v.1 = 8
      · rw [decide_eq_true h1, decide_eq_false h2, decide_eq_true h3]
        repeat (first | with_reducible (first | refine n_on ?_ | refine n_seq ?_ | refine s_else ?_ | refine n_t ?_ | refine n_gt ?_ | refine d_t ?_ | refine n_nil ?_ | refine d_nil ?_ | refine n_block ?_ | refine n_skip ?_ | refine n_bon ?_ | refine n_bback ?_ | refine n_back ?_ | refine n_out ?_ | refine n_bout rfl ?_ | refine n_bfar rfl ?_ | refine n_ret ?_ | refine n_exit ?_ | refine n_label ?_ | refine n_scope ?_ | refine n_son ?_ | refine n_sback ?_) | (with_reducible (first | apply n_region | apply d_region); (simp only [JV, JU, JW, Nat.reduceAdd, Nat.zero_add]; exact rfl)) | (with_reducible (first | apply s_op | apply n_guard | apply n_cond | apply d_guard | apply d_op | apply n_fin | apply n_finb); (simp (maxDischargeDepth := 6) only [sy3.1, zY, qG, qP, qQ, qR, qS, qT, rowAt, ↓jg, ↓ji, Nat.reduceAdd, Nat.reduceEqDiff, ne_eq, jG, Nat.reduceLT, if_true, ite_true, Int.reduceLE, Int.reduceLT, Int.reduceEq, Int.reduceNeg, Int.reduceAdd, Nat.reduceSub, if_false, ite_false, fs_58.1, decide_eq_true h1, decide_eq_false h2, decide_eq_true h3, kind_pure, kind_load, kind_fresh, kind_other, jg, ji, undef]; first | exact rfl | exact ⟨rfl, rfl, rfl, rfl⟩); try (with_reducible refine calmK_in ?_; decide +kernel)))
        try exact Ja (by rfl) (by rfl)
      · rw [decide_eq_true h1, decide_eq_false h2, decide_eq_false h3]
        repeat (first | with_reducible (first | refine n_on ?_ | refine n_seq ?_ | refine s_else ?_ | refine n_t ?_ | refine n_gt ?_ | refine d_t ?_ | refine n_nil ?_ | refine d_nil ?_ | refine n_block ?_ | refine n_skip ?_ | refine n_bon ?_ | refine n_bback ?_ | refine n_back ?_ | refine n_out ?_ | refine n_bout rfl ?_ | refine n_bfar rfl ?_ | refine n_ret ?_ | refine n_exit ?_ | refine n_label ?_ | refine n_scope ?_ | refine n_son ?_ | refine n_sback ?_) | (with_reducible (first | apply n_region | apply d_region); (simp only [JV, JU, JW, Nat.reduceAdd, Nat.zero_add]; exact rfl)) | (with_reducible (first | apply s_op | apply n_guard | apply n_cond | apply d_guard | apply d_op | apply n_fin | apply n_finb); (simp (maxDischargeDepth := 6) only [sy3.1, zY, qG, qP, qQ, qR, qS, qT, rowAt, ↓jg, ↓ji, Nat.reduceAdd, Nat.reduceEqDiff, ne_eq, jG, Nat.reduceLT, if_true, ite_true, Int.reduceLE, Int.reduceLT, Int.reduceEq, Int.reduceNeg, Int.reduceAdd, Nat.reduceSub, if_false, ite_false, fs_58.1, decide_eq_true h1, decide_eq_false h2, decide_eq_false h3, kind_pure, kind_load, kind_fresh, kind_other, jg, ji, undef]; first | exact rfl | exact ⟨rfl, rfl, rfl, rfl⟩); try (with_reducible refine calmK_in ?_; decide +kernel)))
        try exact Ja (by rfl) (by rfl)
  · have h3 : ¬ v.1 = 8 := by omega
    rw [decide_eq_false h1, decide_eq_false h3]
    repeat (first | with_reducible (first | refine n_on ?_ | refine n_seq ?_ | refine s_else ?_ | refine n_t ?_ | refine n_gt ?_ | refine d_t ?_ | refine n_nil ?_ | refine d_nil ?_ | refine n_block ?_ | refine n_skip ?_ | refine n_bon ?_ | refine n_bback ?_ | refine n_back ?_ | refine n_out ?_ | refine n_bout rfl ?_ | refine n_bfar rfl ?_ | refine n_ret ?_ | refine n_exit ?_ | refine n_label ?_ | refine n_scope ?_ | refine n_son ?_ | refine n_sback ?_) | (with_reducible (first | apply n_region | apply d_region); (simp only [JV, JU, JW, Nat.reduceAdd, Nat.zero_add]; exact rfl)) | (with_reducible (first | apply s_op | apply n_guard | apply n_cond | apply d_guard | apply d_op | apply n_fin | apply n_finb); (simp (maxDischargeDepth := 6) only [sy3.1, zY, qG, qP, qQ, qR, qS, qT, rowAt, ↓jg, ↓ji, Nat.reduceAdd, Nat.reduceEqDiff, ne_eq, jG, Nat.reduceLT, if_true, ite_true, Int.reduceLE, Int.reduceLT, Int.reduceEq, Int.reduceNeg, Int.reduceAdd, Nat.reduceSub, if_false, ite_false, fs_58.1, decide_eq_false h1, decide_eq_false h3, kind_pure, kind_load, kind_fresh, kind_other, jg, ji, undef]; first | exact rfl | exact ⟨rfl, rfl, rfl, rfl⟩); try (with_reducible refine calmK_in ?_; decide +kernel)))
    try exact Ja (by rfl) (by rfl)
theorem ptr0_neq : binV Tryz.prog .neq 52 false true (.pointer none) (.pointer none) = some (.bool false) := by kernel_rfl
theorem ptr0_eql : binV Tryz.prog .eql 52 false true (.pointer none) (.pointer none) = some (.bool true) := by kernel_rfl
/-- what find tells -/
abbrev foundV (B : HB) (hs : HS) (v : VV) : Value := match findO hs v with
  | some _ => .pointer (some ⟨B.bl v.2, 0, none⟩)
  | none => .pointer none
set_option maxHeartbeats 8000000 in
theorem find_ok (hO : Clear O) (h : HeapIn o nx w B hs) (v : VV) : oCall Tryz.prog [] O (n + 2) 57 [.pointer (some ⟨B.i, 0, none⟩), .agg #[.int .u8 v.1, .int .i64 v.2]] ⟨o, nx, lg⟩ = some (foundV B hs v, ⟨o, nx, lg⟩) := by
  refine of_got ?_
  obtain ⟨z, hr⟩ := h.row
  obtain ⟨es, c, hm, hmap⟩ := h.all
  have hi := h.lt
  have hma := h.wlt B.ma (by rw [h.wma]; decide)
  have hl : ∀ H : AHeap, H.get B.ma = some (.map es c) → aLookup Tryz.prog 46 (.map (some B.ma)) (.int .i64 v.2) false H = _ := fun H hg => aLookup_by key_int Tryz.underlying46 (show zeroOf Tryz.prog 52 = some (.pointer none) from by kernel_rfl) hg hmap v.2 false
  have hright := hright_ok (n := n) (i := B.i) (m := B.ma) (p := B.p) (c0 := .int .i64 hs.max) (c3 := .map (some B.mt)) (c4 := .int .i64 hs.made) (c5 := .bool hs.watch) (c6 := .map (some B.mn)) (e := 50) (z := z) (own := true) hO
  have hholds := holds_ok (n := n) hO v
  unfold foundV findO
  rw [y_fn (rs := [.tmp 4]) (hO _ (by decide)) Tryz.func57 rfl (by kernel_rfl) rfl rfl]
  cases hh : holdsK v.1 with
  | false =>
    rw [hh] at hholds
    repeat (first | with_reducible (first | refine n_on ?_ | refine n_seq ?_ | refine s_else ?_ | refine n_t ?_ | refine n_gt ?_ | refine d_t ?_ | refine n_nil ?_ | refine d_nil ?_ | refine n_block ?_ | refine n_skip ?_ | refine n_bon ?_ | refine n_bback ?_ | refine n_back ?_ | refine n_out ?_ | refine n_bout rfl ?_ | refine n_bfar rfl ?_ | refine n_ret ?_ | refine n_exit ?_ | refine n_label ?_ | refine n_scope ?_ | refine n_son ?_ | refine n_sback ?_) | (with_reducible (first | apply n_region | apply d_region); (simp only [JV, JU, JW, Nat.reduceAdd, Nat.zero_add]; exact rfl)) | (with_reducible (first | apply s_op | apply n_guard | apply n_cond | apply d_guard | apply d_op | apply n_fin | apply n_finb); (simp (maxDischargeDepth := 6) only [sy3.1, zY, qG, qP, qQ, qR, qS, qT, rowAt, ↓jg, ↓ji, Nat.reduceAdd, Nat.reduceEqDiff, ne_eq, jG, Nat.reduceLT, if_true, ite_true, Int.reduceLE, Int.reduceLT, Int.reduceEq, Int.reduceNeg, Int.reduceAdd, Nat.reduceSub, if_false, ite_false, fs_57.1, hr, hi, hright, hholds, kind_pure, kind_load, kind_fresh, kind_other, jg, ji, undef]; first | exact rfl | exact ⟨rfl, rfl, rfl, rfl⟩); try (with_reducible refine calmK_in ?_; decide +kernel)))
    try exact Ja (by rfl) (by rfl)
  | true =>
    rw [hh] at hholds
    simp only [if_true]
    rcases kv_obj B v.2 hs.objs 0 with ⟨h1, h2⟩ | ⟨ob, r, h1, h2, h3⟩
    · rw [h2] at hl
      rw [h1]
      repeat (first | with_reducible (first | refine n_on ?_ | refine n_seq ?_ | refine s_else ?_ | refine n_t ?_ | refine n_gt ?_ | refine d_t ?_ | refine n_nil ?_ | refine d_nil ?_ | refine n_block ?_ | refine n_skip ?_ | refine n_bon ?_ | refine n_bback ?_ | refine n_back ?_ | refine n_out ?_ | refine n_bout rfl ?_ | refine n_bfar rfl ?_ | refine n_ret ?_ | refine n_exit ?_ | refine n_label ?_ | refine n_scope ?_ | refine n_son ?_ | refine n_sback ?_) | (with_reducible (first | apply n_region | apply d_region); (simp only [JV, JU, JW, Nat.reduceAdd, Nat.zero_add]; exact rfl)) | (with_reducible (first | apply s_op | apply n_guard | apply n_cond | apply d_guard | apply d_op | apply n_fin | apply n_finb); (simp (maxDischargeDepth := 6) only [sy3.1, zY, qG, qP, qQ, qR, qS, qT, rowAt, ↓jg, ↓ji, Nat.reduceAdd, Nat.reduceEqDiff, ne_eq, jG, Nat.reduceLT, if_true, ite_true, Int.reduceLE, Int.reduceLT, Int.reduceEq, Int.reduceNeg, Int.reduceAdd, Nat.reduceSub, if_false, ite_false, fs_57.1, hr, hi, hma, hright, hholds, hm, hl, ptr0_neq, kind_pure, kind_load, kind_fresh, kind_other, jg, ji, undef]; first | exact rfl | exact ⟨rfl, rfl, rfl, rfl⟩); try (with_reducible refine calmK_in ?_; decide +kernel)))
      try exact Ja (by rfl) (by rfl)
    · rw [h3] at hl
      rw [h1]
      have hob := h.obs _ h2
      obtain ⟨tp, sp, ca, cc, z1, hro, _⟩ := hob.ex
      have hbl := hob.lt
      simp only at hro hbl
      by_cases hk : ob.kind = v.1
      · simp only [hk, if_true]
        repeat (first | with_reducible (first | refine n_on ?_ | refine n_seq ?_ | refine s_else ?_ | refine n_t ?_ | refine n_gt ?_ | refine d_t ?_ | refine n_nil ?_ | refine d_nil ?_ | refine n_block ?_ | refine n_skip ?_ | refine n_bon ?_ | refine n_bback ?_ | refine n_back ?_ | refine n_out ?_ | refine n_bout rfl ?_ | refine n_bfar rfl ?_ | refine n_ret ?_ | refine n_exit ?_ | refine n_label ?_ | refine n_scope ?_ | refine n_son ?_ | refine n_sback ?_) | (with_reducible (first | apply n_region | apply d_region); (simp only [JV, JU, JW, Nat.reduceAdd, Nat.zero_add]; exact rfl)) | (with_reducible (first | apply s_op | apply n_guard | apply n_cond | apply d_guard | apply d_op | apply n_fin | apply n_finb); (simp (maxDischargeDepth := 6) only [sy3.1, zY, qG, qP, qQ, qR, qS, qT, rowAt, ↓jg, ↓ji, Nat.reduceAdd, Nat.reduceEqDiff, ne_eq, jG, Nat.reduceLT, if_true, ite_true, Int.reduceLE, Int.reduceLT, Int.reduceEq, Int.reduceNeg, Int.reduceAdd, Nat.reduceSub, if_false, ite_false, fs_57.1, hr, hi, hma, hright, hholds, hm, hl, hro, hbl, obRow, decide_eq_true hk, kind_pure, kind_load, kind_fresh, kind_other, jg, ji, undef]; first | exact rfl | exact ⟨rfl, rfl, rfl, rfl⟩); try (with_reducible refine calmK_in ?_; decide +kernel)))
        try exact Ja (by simp only [all_relogL, js, ju, List.all_nil, jt, Bool.and_self]) (by show Nat.blt _ _ = true; rw [Nat.blt_eq]; exact hbl)
      · simp only [hk, if_false]
        repeat (first | with_reducible (first | refine n_on ?_ | refine n_seq ?_ | refine s_else ?_ | refine n_t ?_ | refine n_gt ?_ | refine d_t ?_ | refine n_nil ?_ | refine d_nil ?_ | refine n_block ?_ | refine n_skip ?_ | refine n_bon ?_ | refine n_bback ?_ | refine n_back ?_ | refine n_out ?_ | refine n_bout rfl ?_ | refine n_bfar rfl ?_ | refine n_ret ?_ | refine n_exit ?_ | refine n_label ?_ | refine n_scope ?_ | refine n_son ?_ | refine n_sback ?_) | (with_reducible (first | apply n_region | apply d_region); (simp only [JV, JU, JW, Nat.reduceAdd, Nat.zero_add]; exact rfl)) | (with_reducible (first | apply s_op | apply n_guard | apply n_cond | apply d_guard | apply d_op | apply n_fin | apply n_finb); (simp (maxDischargeDepth := 6) only [sy3.1, zY, qG, qP, qQ, qR, qS, qT, rowAt, ↓jg, ↓ji, Nat.reduceAdd, Nat.reduceEqDiff, ne_eq, jG, Nat.reduceLT, if_true, ite_true, Int.reduceLE, Int.reduceLT, Int.reduceEq, Int.reduceNeg, Int.reduceAdd, Nat.reduceSub, if_false, ite_false, fs_57.1, hr, hi, hma, hright, hholds, hm, hl, hro, hbl, obRow, decide_eq_false hk, kind_pure, kind_load, kind_fresh, kind_other, jg, ji, undef]; first | exact rfl | exact ⟨rfl, rfl, rfl, rfl⟩); try (with_reducible refine calmK_in ?_; decide +kernel)))
        try exact Ja (by rfl) (by rfl)
end
end Go.Proofs.YtdfadipfhcikdaaGreatDoor

namespace Go.Proofs.YtdfadipfhcikdaaGreatDoor
open Go.RowKit
set_option linter.unusedSimpArgs false
set_option linter.unusedVariables false
set_option maxRecDepth 100000

/-! ### a map's key is given a value, or is struck -/
def putK {K : Type} [DecidableEq K] (x : K) (v : Value) (kv : List (K × Value)) : List (K × Value) := match findK x kv 0 with
  | some (j, _) => kv.set j (x, v)
  | none => kv ++ [(x, v)]
theorem map_put {P : Program} {t mt el : TypeId} {K : Type} [DecidableEq K] {f : K → Value} (h : KeyBy P t f) (hm : P.underlying mt = some (.map t el)) {es : List MapEntry} {kv : List (K × Value)} (hi : MapIs f es kv) (i c : Nat) (x : K) (v : Value) :
    ∃ es' c', (∀ (o : Tr AObj) (nx : Nat) (lg : List Nat), o.get i = some (.map es c) → aMapUpdate P mt (.map (some i)) (f x) v ⟨o, nx, lg⟩ = some ⟨o.put i (some (.map es' c')), nx, noteId i lg⟩) ∧ MapIs f es' (putK x v kv) := by
  unfold putK
  cases hn : findK x kv 0 with
  | none =>
    refine ⟨es ++ [{ key := f x, val := v, born := c }], c + 1, fun o nx lg hg => ?_, hi.snoc x v c⟩
    rw [mapUpdate_add h hm (H := ⟨o, nx, lg⟩) hg hi x v hn]; rfl
  | some r =>
    obtain ⟨j, u⟩ := r
    obtain ⟨k, hk, hx⟩ := findK_get x kv 0 j u hn
    rw [Nat.zero_add] at hk
    subst hk
    have hj : j < kv.length := (List.getElem?_eq_some_iff.1 hx).1
    have hje : j < es.length := by rw [hi.len]; exact hj
    have hkey : (es[j]).key = f x := by
      have h1 := congrArg (fun l : List (Value × Value) => l[j]?) hi
      simp only [List.getElem?_map, hx, Option.map_some, List.getElem?_eq_getElem hje, Option.some.injEq, Prod.mk.injEq] at h1
      exact h1.1
    refine ⟨es.set j { key := f x, val := v, born := (es[j]).born }, c, fun o nx lg hg => ?_, ?_⟩
    · simp only [aMapUpdate, hm, h.flat, cond, qH, hg, h.chk, findKey_by h x hi, hn, List.getElem?_eq_getElem hje, hkey, h.bits]; rfl
    · unfold MapIs at hi ⊢
      simp only
      rw [List.map_set, List.map_set, hi]
section
variable {O : Helps} {n : Nat} {o : Tr AObj} {nx : Nat} {lg : List Nat} {w : Nat → Nat} {B : HB} {hs : HS}
set_option maxHeartbeats 4000000 in
theorem of_ok (hO : Clear O) (h : HeapIn o nx w B hs) (v : VV) (k : Int) : oCall Tryz.prog [] O (n + 3) 16 [.pointer (some ⟨B.i, 0, none⟩), .agg #[.int .u8 v.1, .int .i64 v.2], .int .u8 k] ⟨o, nx, lg⟩ = some (if v.1 = k then foundV B hs v else .pointer none, ⟨o, nx, lg⟩) := by
  refine of_got ?_
  have hf2 := fun (X : AObj) (q : Nat) (lg : List Nat) => find_ok (n := n) (o := o.put nx (some X)) (nx := nx + q) (lg := lg) hO (h.more (by omega) fun x hx => qF _ _ _ _ (by omega)) v
  rw [y_fn (rs := [.tmp 6]) (hO _ (by decide)) Tryz.func16 rfl (by kernel_rfl) rfl rfl]
  by_cases hk : v.1 = k
  · rw [if_pos hk]
    have hlow : lowV nx (foundV B hs v) = true := by
      unfold foundV
      cases hfo : findO hs v with
      | none => rfl
      | some ob =>
        unfold findO at hfo
        split at hfo
        · split at hfo
          · rename_i ob1 h1
            have := (h.obs _ (look_mem h1)).lt
            show Nat.blt _ _ = true
            rw [Nat.blt_eq]; exact this
          · cases hfo
        · cases hfo
    generalize hfv : foundV B hs v = fv at hf2 hlow ⊢
    repeat (first | with_reducible (first | refine n_on ?_ | refine n_seq ?_ | refine s_else ?_ | refine n_t ?_ | refine n_gt ?_ | refine d_t ?_ | refine n_nil ?_ | refine d_nil ?_ | refine n_block ?_ | refine n_skip ?_ | refine n_bon ?_ | refine n_bback ?_ | refine n_back ?_ | refine n_out ?_ | refine n_bout rfl ?_ | refine n_bfar rfl ?_ | refine n_ret ?_ | refine n_exit ?_ | refine n_label ?_ | refine n_scope ?_ | refine n_son ?_ | refine n_sback ?_) | (with_reducible (first | apply n_region | apply d_region); (simp only [JV, JU, JW, Nat.reduceAdd, Nat.zero_add]; exact rfl)) | (with_reducible (first | apply s_op | apply n_guard | apply n_cond | apply d_guard | apply d_op | apply n_fin | apply n_finb); (simp (maxDischargeDepth := 6) only [sy3.1, zY, qG, qP, qQ, qR, qS, qT, rowAt, ↓jg, ↓ji, Nat.reduceAdd, Nat.reduceEqDiff, ne_eq, jG, Nat.reduceLT, if_true, ite_true, Int.reduceLE, Int.reduceLT, Int.reduceEq, Int.reduceNeg, Int.reduceAdd, Nat.reduceSub, if_false, ite_false, fs_16.1, hf2, decide_eq_true hk, kind_pure, kind_load, kind_fresh, kind_other, jg, ji, undef]; first | exact rfl | exact ⟨rfl, rfl, rfl, rfl⟩); try (with_reducible refine calmK_in ?_; decide +kernel)))
    try exact Ja (by rfl) hlow
  · rw [if_neg hk]
    repeat (first | with_reducible (first | refine n_on ?_ | refine n_seq ?_ | refine s_else ?_ | refine n_t ?_ | refine n_gt ?_ | refine d_t ?_ | refine n_nil ?_ | refine d_nil ?_ | refine n_block ?_ | refine n_skip ?_ | refine n_bon ?_ | refine n_bback ?_ | refine n_back ?_ | refine n_out ?_ | refine n_bout rfl ?_ | refine n_bfar rfl ?_ | refine n_ret ?_ | refine n_exit ?_ | refine n_label ?_ | refine n_scope ?_ | refine n_son ?_ | refine n_sback ?_) | (with_reducible (first | apply n_region | apply d_region); (simp only [JV, JU, JW, Nat.reduceAdd, Nat.zero_add]; exact rfl)) | (with_reducible (first | apply s_op | apply n_guard | apply n_cond | apply d_guard | apply d_op | apply n_fin | apply n_finb); (simp (maxDischargeDepth := 6) only [sy3.1, zY, qG, qP, qQ, qR, qS, qT, rowAt, ↓jg, ↓ji, Nat.reduceAdd, Nat.reduceEqDiff, ne_eq, jG, Nat.reduceLT, if_true, ite_true, Int.reduceLE, Int.reduceLT, Int.reduceEq, Int.reduceNeg, Int.reduceAdd, Nat.reduceSub, if_false, ite_false, fs_16.1, hf2, decide_eq_false hk, kind_pure, kind_load, kind_fresh, kind_other, jg, ji, undef]; first | exact rfl | exact ⟨rfl, rfl, rfl, rfl⟩); try (with_reducible refine calmK_in ?_; decide +kernel)))
    try exact Ja (by rfl) (by rfl)
theorem found_neq (B : HB) (hs : HS) (v : VV) : binV Tryz.prog .neq 52 false true (foundV B hs v) (.pointer none) = some (.bool (findO hs v).isSome) := by
  unfold foundV
  cases findO hs v with
  | none => exact ptr0_neq
  | some ob => exact b_neq_ptr Tryz.underlying52
theorem found_eql (B : HB) (hs : HS) (v : VV) : binV Tryz.prog .eql 52 false true (foundV B hs v) (.pointer none) = some (.bool !(findO hs v).isSome) := by
  unfold foundV
  cases findO hs v with
  | none => exact ptr0_eql
  | some ob => exact b_eql_ptr Tryz.underlying52
set_option maxHeartbeats 8000000 in
theorem keep_ok (hO : Clear O) (h : HeapIn o nx w B hs) (v : VV) : oCall Tryz.prog [] O (n + 3) 17 [.pointer (some ⟨B.i, 0, none⟩), .agg #[.int .u8 v.1, .int .i64 v.2]] ⟨o, nx, lg⟩ = some (.bool (keepO hs v), ⟨o, nx, lg⟩) := by
  refine of_got ?_
  have hf2 := fun (X : AObj) (q : Nat) (lg : List Nat) => find_ok (n := n) (o := o.put nx (some X)) (nx := nx + q) (lg := lg) hO (h.more (by omega) fun x hx => qF _ _ _ _ (by omega)) v
  have hh := holds_ok (n := n + 1) hO v
  have hfn := found_neq B hs v
  generalize hfv : foundV B hs v = fv at hf2 hfn
  rw [y_fn (rs := [.tmp 4]) (hO _ (by decide)) Tryz.func17 rfl (by kernel_rfl) rfl rfl]
  have tail : ∀ b, holdsK v.1 = b → True := fun _ _ => trivial
  by_cases h8 : 8 < v.1
  · have hk : keepO hs v = false := by unfold keepO; rw [if_pos (.inl h8)]
    rw [hk]
    repeat (first | with_reducible (first | refine n_on ?_ | refine n_seq ?_ | refine s_else ?_ | refine n_t ?_ | refine n_gt ?_ | refine d_t ?_ | refine n_nil ?_ | refine d_nil ?_ | refine n_block ?_ | refine n_skip ?_ | refine n_bon ?_ | refine n_bback ?_ | refine n_back ?_ | refine n_out ?_ | refine n_bout rfl ?_ | refine n_bfar rfl ?_ | refine n_ret ?_ | refine n_exit ?_ | refine n_label ?_ | refine n_scope ?_ | refine n_son ?_ | refine n_sback ?_) | (with_reducible (first | apply n_region | apply d_region); (simp only [JV, JU, JW, Nat.reduceAdd, Nat.zero_add]; exact rfl)) | (with_reducible (first | apply s_op | apply n_guard | apply n_cond | apply d_guard | apply d_op | apply n_fin | apply n_finb); (simp (maxDischargeDepth := 6) only [sy3.1, zY, qG, qP, qQ, qR, qS, qT, rowAt, ↓jg, ↓ji, Nat.reduceAdd, Nat.reduceEqDiff, ne_eq, jG, Nat.reduceLT, if_true, ite_true, Int.reduceLE, Int.reduceLT, Int.reduceEq, Int.reduceNeg, Int.reduceAdd, Nat.reduceSub, if_false, ite_false, fs_17.1, decide_eq_true h8, kind_pure, kind_load, kind_fresh, kind_other, jg, ji, undef]; first | exact rfl | exact ⟨rfl, rfl, rfl, rfl⟩); try (with_reducible refine calmK_in ?_; decide +kernel)))
    try exact Ja (by rfl) (by rfl)
  by_cases h2 : v.1 ≤ 2
  · by_cases h0 : v.2 = 0
    · have hn : ¬ (8 < v.1 ∨ v.1 ≤ 2 ∧ v.2 ≠ 0) := fun h => h.elim h8 fun h => h.2 h0
      have hk1 : holdsK v.1 = false := by unfold holdsK; rw [decide_eq_false (p := 4 ≤ v.1) (by omega), decide_eq_false (p := v.1 = 8) (by omega), decide_eq_false (p := v.1 = 9) (by omega)]; rfl
      have hk : keepO hs v = true := by unfold keepO; rw [if_neg hn, hk1]; rfl
      rw [hk1] at hh
      rw [hk]
      repeat (first | with_reducible (first | refine n_on ?_ | refine n_seq ?_ | refine s_else ?_ | refine n_t ?_ | refine n_gt ?_ | refine d_t ?_ | refine n_nil ?_ | refine d_nil ?_ | refine n_block ?_ | refine n_skip ?_ | refine n_bon ?_ | refine n_bback ?_ | refine n_back ?_ | refine n_out ?_ | refine n_bout rfl ?_ | refine n_bfar rfl ?_ | refine n_ret ?_ | refine n_exit ?_ | refine n_label ?_ | refine n_scope ?_ | refine n_son ?_ | refine n_sback ?_) | (with_reducible (first | apply n_region | apply d_region); (simp only [JV, JU, JW, Nat.reduceAdd, Nat.zero_add]; exact rfl)) | (with_reducible (first | apply s_op | apply n_guard | apply n_cond | apply d_guard | apply d_op | apply n_fin | apply n_finb); (simp (maxDischargeDepth := 6) only [sy3.1, zY, qG, qP, qQ, qR, qS, qT, rowAt, ↓jg, ↓ji, Nat.reduceAdd, Nat.reduceEqDiff, ne_eq, jG, Nat.reduceLT, if_true, ite_true, Int.reduceLE, Int.reduceLT, Int.reduceEq, Int.reduceNeg, Int.reduceAdd, Nat.reduceSub, if_false, ite_false, fs_17.1, hh, decide_eq_false h8, decide_eq_true h2, decide_eq_true h0, kind_pure, kind_load, kind_fresh, kind_other, jg, ji, undef]; first | exact rfl | exact ⟨rfl, rfl, rfl, rfl⟩); try (with_reducible refine calmK_in ?_; decide +kernel)))
      try exact Ja (by rfl) (by rfl)
    · have hk : keepO hs v = false := by unfold keepO; rw [if_pos (.inr ⟨h2, h0⟩)]
      rw [hk]
      repeat (first | with_reducible (first | refine n_on ?_ | refine n_seq ?_ | refine s_else ?_ | refine n_t ?_ | refine n_gt ?_ | refine d_t ?_ | refine n_nil ?_ | refine d_nil ?_ | refine n_block ?_ | refine n_skip ?_ | refine n_bon ?_ | refine n_bback ?_ | refine n_back ?_ | refine n_out ?_ | refine n_bout rfl ?_ | refine n_bfar rfl ?_ | refine n_ret ?_ | refine n_exit ?_ | refine n_label ?_ | refine n_scope ?_ | refine n_son ?_ | refine n_sback ?_) | (with_reducible (first | apply n_region | apply d_region); (simp only [JV, JU, JW, Nat.reduceAdd, Nat.zero_add]; exact rfl)) | (with_reducible (first | apply s_op | apply n_guard | apply n_cond | apply d_guard | apply d_op | apply n_fin | apply n_finb); (simp (maxDischargeDepth := 6) only [sy3.1, zY, qG, qP, qQ, qR, qS, qT, rowAt, ↓jg, ↓ji, Nat.reduceAdd, Nat.reduceEqDiff, ne_eq, jG, Nat.reduceLT, if_true, ite_true, Int.reduceLE, Int.reduceLT, Int.reduceEq, Int.reduceNeg, Int.reduceAdd, Nat.reduceSub, if_false, ite_false, fs_17.1, hh, decide_eq_false h8, decide_eq_true h2, decide_eq_false h0, kind_pure, kind_load, kind_fresh, kind_other, jg, ji, undef]; first | exact rfl | exact ⟨rfl, rfl, rfl, rfl⟩); try (with_reducible refine calmK_in ?_; decide +kernel)))
      try exact Ja (by rfl) (by rfl)
  · have hn : ¬ (8 < v.1 ∨ v.1 ≤ 2 ∧ v.2 ≠ 0) := fun h => h.elim h8 fun h => h2 h.1
    cases hk1 : holdsK v.1 with
    | false =>
      have hk : keepO hs v = true := by unfold keepO; rw [if_neg hn, hk1]; rfl
      rw [hk1] at hh
      rw [hk]
      repeat (first | with_reducible (first | refine n_on ?_ | refine n_seq ?_ | refine s_else ?_ | refine n_t ?_ | refine n_gt ?_ | refine d_t ?_ | refine n_nil ?_ | refine d_nil ?_ | refine n_block ?_ | refine n_skip ?_ | refine n_bon ?_ | refine n_bback ?_ | refine n_back ?_ | refine n_out ?_ | refine n_bout rfl ?_ | refine n_bfar rfl ?_ | refine n_ret ?_ | refine n_exit ?_ | refine n_label ?_ | refine n_scope ?_ | refine n_son ?_ | refine n_sback ?_) | (with_reducible (first | apply n_region | apply d_region); (simp only [JV, JU, JW, Nat.reduceAdd, Nat.zero_add]; exact rfl)) | (with_reducible (first | apply s_op | apply n_guard | apply n_cond | apply d_guard | apply d_op | apply n_fin | apply n_finb); (simp (maxDischargeDepth := 6) only [sy3.1, zY, qG, qP, qQ, qR, qS, qT, rowAt, ↓jg, ↓ji, Nat.reduceAdd, Nat.reduceEqDiff, ne_eq, jG, Nat.reduceLT, if_true, ite_true, Int.reduceLE, Int.reduceLT, Int.reduceEq, Int.reduceNeg, Int.reduceAdd, Nat.reduceSub, if_false, ite_false, fs_17.1, hh, decide_eq_false h8, decide_eq_false h2, kind_pure, kind_load, kind_fresh, kind_other, jg, ji, undef]; first | exact rfl | exact ⟨rfl, rfl, rfl, rfl⟩); try (with_reducible refine calmK_in ?_; decide +kernel)))
      try exact Ja (by rfl) (by rfl)
    | true =>
      have hk : keepO hs v = (findO hs v).isSome := by unfold keepO; rw [if_neg hn, hk1]; rfl
      rw [hk1] at hh
      rw [hk]
      repeat (first | with_reducible (first | refine n_on ?_ | refine n_seq ?_ | refine s_else ?_ | refine n_t ?_ | refine n_gt ?_ | refine d_t ?_ | refine n_nil ?_ | refine d_nil ?_ | refine n_block ?_ | refine n_skip ?_ | refine n_bon ?_ | refine n_bback ?_ | refine n_back ?_ | refine n_out ?_ | refine n_bout rfl ?_ | refine n_bfar rfl ?_ | refine n_ret ?_ | refine n_exit ?_ | refine n_label ?_ | refine n_scope ?_ | refine n_son ?_ | refine n_sback ?_) | (with_reducible (first | apply n_region | apply d_region); (simp only [JV, JU, JW, Nat.reduceAdd, Nat.zero_add]; exact rfl)) | (with_reducible (first | apply s_op | apply n_guard | apply n_cond | apply d_guard | apply d_op | apply n_fin | apply n_finb); (simp (maxDischargeDepth := 6) only [sy3.1, zY, qG, qP, qQ, qR, qS, qT, rowAt, ↓jg, ↓ji, Nat.reduceAdd, Nat.reduceEqDiff, ne_eq, jG, Nat.reduceLT, if_true, ite_true, Int.reduceLE, Int.reduceLT, Int.reduceEq, Int.reduceNeg, Int.reduceAdd, Nat.reduceSub, if_false, ite_false, fs_17.1, hh, hf2, hfn, decide_eq_false h8, decide_eq_false h2, kind_pure, kind_load, kind_fresh, kind_other, jg, ji, undef]; first | exact rfl | exact ⟨rfl, rfl, rfl, rfl⟩); try (with_reducible refine calmK_in ?_; decide +kernel)))
      try exact Ja (by rfl) (by rfl)
def noteL (hs : HS) (d : Int) : List Int := if hs.watch = true then (if d ∈ hs.noted then hs.noted else hs.noted ++ [d]) else hs.noted
theorem find_mem (d : Int) (f : Int → Value) : ∀ (l : List Int) (i : Nat), (d ∉ l ∧ findK d (l.map fun q => (q, f q)) i = none) ∨ (d ∈ l ∧ ∃ r, findK d (l.map fun q => (q, f q)) i = some (i + r, f d) ∧ l[r]? = some d)
  | [], i => .inl ⟨by simp, rfl⟩
  | q :: l, i => by
    by_cases e : q = d
    · subst e; exact .inr ⟨by simp, 0, by simp [findK], by simp⟩
    · rcases find_mem d f l (i + 1) with ⟨h1, h2⟩ | ⟨h1, r, h2, h3⟩
      · refine .inl ⟨by simp [h1, Ne.symm e], ?_⟩
        simp only [List.map_cons, findK]; rw [if_neg (fun h => e h.symm)]; exact h2
      · refine .inr ⟨by simp [h1], r + 1, ?_, by simpa using h3⟩
        simp only [List.map_cons, findK]; rw [if_neg (fun h => e h.symm), h2, show i + 1 + r = i + (r + 1) from by omega]
theorem put_noted (l : List Int) (d : Int) : putK d (.bool true) (l.map fun q => (q, .bool true)) = (if d ∈ l then l else l ++ [d]).map fun q => (q, .bool true) := by
  unfold putK
  rcases find_mem d (fun _ => .bool true) l 0 with ⟨h1, h2⟩ | ⟨h1, r, h2, h3⟩
  · rw [h2, if_neg h1]; simp
  · rw [h2, if_pos h1]
    simp only [Nat.zero_add]
    refine List.ext_getElem? fun j => ?_
    rw [List.getElem?_set]
    by_cases e : r = j
    · subst e
      have hr := (List.getElem?_eq_some_iff.1 h3).1
      rw [if_pos rfl, if_pos (by simpa using hr), List.getElem?_map, h3]; rfl
    · rw [if_neg e]
/-- what a call that turns the heap leaves -/
def HTo (o : Tr AObj) (nx : Nat) (lg : List Nat) (w : Nat → Nat) (B : HB) (hs hs' : HS) (v : Value) (r : Value × AHeap) : Prop :=
  ∃ o' nx' lg' w' B', r = (v, ⟨o', nx', lg'⟩) ∧ nx ≤ nx' ∧ HeapIn o' nx' w' B' hs' ∧ B'.i = B.i ∧ (∀ x, x < nx → w x = 0 → o'.get x = o.get x ∧ w' x = 0) ∧ (∀ y, y ∈ lg → y ∈ lg') ∧ ((∃ x, x ∈ lg' ∧ w x ≠ 0) ∨ (o' = o ∧ nx' = nx ∧ lg' = lg ∧ w' = w ∧ B' = B ∧ hs' = hs))
theorem HTo.same (h : HeapIn o nx w B hs) (v : Value) : HTo o nx lg w B hs hs v (v, ⟨o, nx, lg⟩) := ⟨_, _, _, w, B, rfl, Nat.le_refl _, h, rfl, fun _ _ h => ⟨rfl, h⟩, fun _ h => h, .inr ⟨rfl, rfl, rfl, rfl, rfl, rfl⟩⟩
set_option maxHeartbeats 8000000 in
theorem note_ok (hO : Clear O) (h : HeapIn o nx w B hs) (d : Int) : Got (oCall Tryz.prog [] O (n + 1) 23 [.pointer (some ⟨B.i, 0, none⟩), .int .i64 d] ⟨o, nx, lg⟩) fun r => ∃ o' nx' lg', r = (.tuple #[], ⟨o', nx', lg'⟩) ∧ nx ≤ nx' ∧ HeapIn o' nx' w B { hs with noted := noteL hs d } ∧ (∀ x, x < nx → x ≠ B.mn → o'.get x = o.get x) ∧ ∀ y, y ∈ lg → y ∈ lg' := by
  obtain ⟨z, hr⟩ := h.row
  obtain ⟨es, c, hm, hmap⟩ := h.noted
  have hi := h.lt
  have hmn := h.wlt B.mn (by rw [h.wmn]; decide)
  obtain ⟨es', c', hput, hmap'⟩ := map_put key_int Tryz.underlying48 hmap B.mn c d (.bool true)
  rw [y_fn (rs := []) (hO _ (by decide)) Tryz.func23 rfl (by kernel_rfl) rfl rfl]
  by_cases hw : hs.watch = true
  · have e : noteL hs d = if d ∈ hs.noted then hs.noted else hs.noted ++ [d] := by unfold noteL; rw [if_pos hw]
    repeat (first | with_reducible (first | refine n_on ?_ | refine n_seq ?_ | refine s_else ?_ | refine n_t ?_ | refine n_gt ?_ | refine d_t ?_ | refine n_nil ?_ | refine d_nil ?_ | refine n_block ?_ | refine n_skip ?_ | refine n_bon ?_ | refine n_bback ?_ | refine n_back ?_ | refine n_out ?_ | refine n_bout rfl ?_ | refine n_bfar rfl ?_ | refine n_ret ?_ | refine n_exit ?_ | refine n_label ?_ | refine n_scope ?_ | refine n_son ?_ | refine n_sback ?_) | (with_reducible (first | apply n_region | apply d_region); (simp only [JV, JU, JW, Nat.reduceAdd, Nat.zero_add]; exact rfl)) | (with_reducible (first | apply s_op | apply n_guard | apply n_cond | apply d_guard | apply d_op | apply n_fin | apply n_finb); (simp (maxDischargeDepth := 6) only [sy3.1, zY, qG, qP, qQ, qR, qS, qT, rowAt, ↓jg, ↓ji, Nat.reduceAdd, Nat.reduceEqDiff, ne_eq, jG, Nat.reduceLT, if_true, ite_true, Int.reduceLE, Int.reduceLT, Int.reduceEq, Int.reduceNeg, Int.reduceAdd, Nat.reduceSub, if_false, ite_false, fs_23.1, heapRow, hr, hi, hmn, hm, hput, hw, kind_pure, kind_load, kind_fresh, kind_other, jg, ji, undef]; first | exact rfl | exact ⟨rfl, rfl, rfl, rfl⟩); try (with_reducible refine calmK_in ?_; decide +kernel)))
    obtain ⟨l', e2, hmo, _⟩ := leave_log (o := o) (o' := o.put B.mn (some (.map es' c'))) (nx := nx) (nx' := nx + 10) (lg := lg) (l := noteId B.mn []) (v := .tuple #[]) (not_all (x := B.mn) (in_note.2 (.inl rfl)) hmn)
    obtain ⟨esA, cA, hmA, hmapA⟩ := h.all
    obtain ⟨esT, cT, hmT, hmapT⟩ := h.texts
    have hne : ∀ x, w x ≠ 7 → x ≠ B.mn := fun x hx e => hx (by rw [e]; exact h.wmn)
    refine ⟨_, _, _, e2, by omega, ⟨fun x hx => by have := h.wlt x hx; omega, h.wi, h.wp, h.wa, h.wb, h.wma, h.wmt, h.wmn, ⟨z, ?_⟩, h.pool.keep (by omega) ?_, ⟨esA, cA, ?_, hmapA⟩, fun q hq => (h.obs q hq).keep (by omega) fun x hx hob => ⟨?_, rfl⟩, ⟨esT, cT, ?_, hmapT⟩, ⟨es', c', qE _ _ _, ?_⟩⟩, fun x hx hxm => qF _ _ _ _ hxm, hmo⟩
    · rw [qF _ _ _ _ (hne _ (by rw [h.wi]; decide))]; exact hr
    · rintro x (rfl | e3 | e3)
      · exact qF _ _ _ _ (hne _ (by rw [h.wp]; decide))
      · exact qF _ _ _ _ (hne _ (by rw [h.wa x e3]; decide))
      · exact qF _ _ _ _ (hne _ (by rw [h.wb x e3]; decide))
    · rw [qF _ _ _ _ (hne _ (by rw [h.wma]; decide))]; exact hmA
    · exact qF _ _ _ _ (hne _ (by have := hob.1; omega))
    · rw [qF _ _ _ _ (hne _ (by rw [h.wmt]; decide))]; exact hmT
    · rw [e, ← put_noted]; exact hmap'
  · have e : ({ hs with noted := noteL hs d } : HS) = hs := by unfold noteL; rw [if_neg hw]
    rw [Bool.not_eq_true] at hw
    repeat (first | with_reducible (first | refine n_on ?_ | refine n_seq ?_ | refine s_else ?_ | refine n_t ?_ | refine n_gt ?_ | refine d_t ?_ | refine n_nil ?_ | refine d_nil ?_ | refine n_block ?_ | refine n_skip ?_ | refine n_bon ?_ | refine n_bback ?_ | refine n_back ?_ | refine n_out ?_ | refine n_bout rfl ?_ | refine n_bfar rfl ?_ | refine n_ret ?_ | refine n_exit ?_ | refine n_label ?_ | refine n_scope ?_ | refine n_son ?_ | refine n_sback ?_) | (with_reducible (first | apply n_region | apply d_region); (simp only [JV, JU, JW, Nat.reduceAdd, Nat.zero_add]; exact rfl)) | (with_reducible (first | apply s_op | apply n_guard | apply n_cond | apply d_guard | apply d_op | apply n_fin | apply n_finb); (simp (maxDischargeDepth := 6) only [sy3.1, zY, qG, qP, qQ, qR, qS, qT, rowAt, ↓jg, ↓ji, Nat.reduceAdd, Nat.reduceEqDiff, ne_eq, jG, Nat.reduceLT, if_true, ite_true, Int.reduceLE, Int.reduceLT, Int.reduceEq, Int.reduceNeg, Int.reduceAdd, Nat.reduceSub, if_false, ite_false, fs_23.1, heapRow, hr, hi, hw, kind_pure, kind_load, kind_fresh, kind_other, jg, ji, undef]; first | exact rfl | exact ⟨rfl, rfl, rfl, rfl⟩); try (with_reducible refine calmK_in ?_; decide +kernel)))
    exact ⟨_, _, _, Ja (by rfl) (by rfl), Nat.le_refl _, by rw [e]; exact h, fun _ _ _ => rfl, fun _ h => h⟩
end
end Go.Proofs.YtdfadipfhcikdaaGreatDoor

namespace Go.Proofs.YtdfadipfhcikdaaGreatDoor
open Go.RowKit
set_option linter.unusedSimpArgs false
set_option linter.unusedVariables false
set_option maxRecDepth 100000

/-- what holds of every heap that New made, and its calls turned -/
structure HGood (hs : HS) : Prop where
  pool : Good hs.pool
  bound : hs.pool.bound = hs.max
  max : hs.max ≤ 16777216
  keys : (hs.objs.map (·.1)).Nodup
  ids : ∀ q ∈ hs.objs, hasP hs.pool q.1 = true
  cnt : hs.pool.count = hs.objs.length
  made0 : 0 ≤ hs.made
def serialK (k : Int) : Bool := decide (k = 5) || (decide (k = 6) || decide (k = 8))
def addO (hs : HS) (ob : Ob) (size : Int) : HS × VV × Int :=
  if hs.max < hs.pool.used + size then (hs, (0, 0), 152)
  else ({ hs with made := if serialK ob.kind = true then hs.made + 1 else hs.made, pool := (takeP hs.pool size).1, objs := hs.objs ++ [((takeP hs.pool size).2.1, { ob with serial := if serialK ob.kind = true then hs.made + 1 else ob.serial })], noted := noteL hs (takeP hs.pool size).2.1 }, (ob.kind, (takeP hs.pool size).2.1), 0)
theorem putK_new {B : HB} {d : Int} {l : List (Int × Ob)} (h : lookO l d = none) (b : Nat) (ob : Ob) : putK d (.pointer (some ⟨b, 0, none⟩)) (objKV B l) = objKV { B with bl := fun q => if q = d then b else B.bl q } (l ++ [(d, ob)]) := by
  unfold putK
  rcases kv_obj B d l 0 with ⟨_, h2⟩ | ⟨ob, r, h1, _⟩
  · rw [h2]
    simp only [objKV, List.map_append, List.map_cons, List.map_nil, if_true]
    congr 1
    refine List.map_congr_left fun q hq => ?_
    have : q.1 ≠ d := by
      intro e
      unfold lookO at h
      have := List.find?_eq_none.1 (Option.map_eq_none_iff.1 h) q hq
      simp [e] at this
    simp only [this, if_false]
  · rw [h] at h1; cases h1
section
variable {O : Helps} {n : Nat} {o : Tr AObj} {nx : Nat} {lg : List Nat} {w : Nat → Nat} {B : HB} {hs : HS}
theorem ObIn.serialed {o3 : Tr AObj} {nx3 : Nat} {w3 : Nat → Nat} {d : Int} {b : Nat} {ob : Ob} {s : Int} {tp sp : Option Addr} {ca : Option Nat} {cc zz : Nat} (h : ObIn o nx w d b ob) (hr : o.get b = some (.row (obRow ob tp sp ca cc) 57 zz true)) (hn : nx ≤ nx3)
    (h3 : o3.get b = some (.row (obRow { ob with serial := s } tp sp ca cc) 57 zz true)) (hk : ∀ x, x < nx → isOb w d x → x ≠ b → o3.get x = o.get x) (hw : ∀ x, x < nx → isOb w d x → w3 x = w x) : ObIn o3 nx3 w3 d b { ob with serial := s } := by
  obtain ⟨tp', sp', ca', cc', z', h1, h2, hcc, h4, h5⟩ := h.ex
  rw [h1] at hr
  simp only [Option.some.injEq, AObj.row.injEq, List.cons.injEq, Value.pointer.injEq, Value.slice.injEq, true_and, and_true] at hr
  obtain ⟨⟨rfl, ⟨e1, rfl⟩, rfl⟩, rfl⟩ := hr
  have e1 : ca' = ca := by
    cases ca' <;> cases ca <;> simp [slA] at e1
    · rfl
    · rw [e1]
  subst e1
  have hb := hw b h.lt ⟨by rw [h.own]; omega, by rw [h.own]; omega⟩
  have hca : ∀ q, ca' = some q → q < nx ∧ isOb w d q ∧ q ≠ b := fun q e => ⟨by
    rcases h2 with ⟨e2, _⟩ | ⟨j, _, e2, hj, _⟩
    · rw [e] at e2; cases e2
    · rw [e] at e2; cases e2; exact hj, by rw [isOb, h4 q e]; omega, fun e2 => by have := h4 q e; rw [e2, h.own] at this; omega⟩
  refine ⟨Nat.lt_of_lt_of_le h.lt hn, by rw [hb]; exact h.own, _, _, _, _, _, h3, h2.keep hn fun q e => hk q (hca q e).1 (hca q e).2.1 (hca q e).2.2, hcc, fun q e => by rw [hw q (hca q e).1 (hca q e).2.1]; exact h4 q e, fun hk5 => ?_⟩
  obtain ⟨ti, tm, ta, g1, g2, g3, g4, g5⟩ := h5 hk5
  have k1 : isOb w d ti ∧ ti ≠ b := ⟨by rw [isOb, g3]; omega, fun e2 => by have := g3; rw [e2, h.own] at this; omega⟩
  have k2 : isOb w d tm ∧ tm ≠ b := ⟨by rw [isOb, g4]; omega, fun e2 => by have := g4; rw [e2, h.own] at this; omega⟩
  have k3 : ∀ q, ta = some q → isOb w d q ∧ q ≠ b := fun q e => ⟨by rw [isOb, g5 q e]; omega, fun e2 => by have := g5 q e; rw [e2, h.own] at this; omega⟩
  refine ⟨ti, tm, ta, g1, g2.keep hn fun x hx => ?_, by rw [hw ti g2.lt k1.1]; exact g3, by rw [hw tm g2.ltm k2.1]; exact g4, fun q e => by rw [hw q (g2.mine_lt (.inr (.inr e))) (k3 q e).1]; exact g5 q e⟩
  rcases hx with rfl | rfl | hx
  · exact hk _ g2.lt k1.1 k1.2
  · exact hk _ g2.ltm k2.1 k2.2
  · exact hk _ (g2.mine_lt (.inr (.inr hx))) (k3 x hx).1 (k3 x hx).2
/-- the marks behind a new object: the pool's new rows are marked too -/
def markA (nx : Nat) (w1 : Nat → Nat) (a b : Option Nat) : Nat → Nat := fun x => if nx ≤ x then (if a = some x then 3 else if b = some x then 4 else 0) else w1 x
theorem markA_old {nx : Nat} {w1 : Nat → Nat} {a b : Option Nat} {x : Nat} (h : x < nx) : markA nx w1 a b x = w1 x := by unfold markA; rw [if_neg (by omega)]
theorem heap_added {o1 o3 : Tr AObj} {nx1 nx3 : Nat} {w1 : Nat → Nat} {a' b' : Option Nat} {P1 : PS} {d m : Int} {bo : Nat} {ob' : Ob} {z : Nat} {es' : List MapEntry} {c' : Nat}
    (h : HeapIn o nx w B hs) (hw1 : ∀ x, w x ≠ 0 → w1 x = w x) (hw1lt : ∀ x, w1 x ≠ 0 → x < nx) (hn : nx ≤ nx1) (hP1 : PoolIn o1 nx1 B.p a' b' P1) (hfr : ∀ x, x < nx → ¬ PMine B.p B.a B.b x → o1.get x = o.get x)
    (ha : a' = B.a ∨ ∃ k, a' = some k ∧ nx ≤ k) (hb : b' = B.b ∨ ∃ k, b' = some k ∧ nx ≤ k) (hn3 : nx1 ≤ nx3) (hnew : lookO hs.objs d = none) (hbo : w bo = 0)
    (hi3 : o3.get B.i = some (.row (heapRow B { hs with made := m }) 50 z true)) (ho3 : ObIn o3 nx3 (markA nx w1 a' b') d bo ob') (hma3 : o3.get B.ma = some (.map es' c')) (hmap3 : MapIs (Value.int .i64) es' (putK d (.pointer (some ⟨bo, 0, none⟩)) (objKV B hs.objs)))
    (hrest : ∀ x, x < nx1 → x ≠ B.i → x ≠ B.ma → x ≠ bo → o3.get x = o1.get x) :
    HeapIn o3 nx3 (markA nx w1 a' b') { B with a := a', b := b', bl := fun q => if q = d then bo else B.bl q } { hs with made := m, pool := P1, objs := hs.objs ++ [(d, ob')] } := by
  have old : ∀ x k, w x = k + 1 → markA nx w1 a' b' x = k + 1 := fun x k e => by
    rw [markA_old (h.wlt x (by omega)), hw1 x (by omega)]; exact e
  have hneb : ∀ x k, w x = k + 1 → x ≠ bo := fun x k e e2 => by rw [e2, hbo] at e; omega
  have hnp : ∀ x k, w x = k + 1 → k ≠ 1 → k ≠ 2 → k ≠ 3 → ¬ PMine B.p B.a B.b x := fun x k e h1 h2 h3 hm => by
    rcases hm with rfl | e2 | e2
    · rw [h.wp] at e; omega
    · rw [h.wa x e2] at e; omega
    · rw [h.wb x e2] at e; omega
  have hbolt : bo < nx := by
    have h5 := ho3.own
    by_cases hlt : bo < nx
    · exact hlt
    · exfalso
      unfold markA at h5
      rw [if_pos (by omega)] at h5
      split at h5
      · omega
      · split at h5 <;> omega
  have hp1 : ∀ x, PMine B.p a' b' x → x ≠ B.i ∧ x ≠ B.ma ∧ x ≠ bo := by
    have key : ∀ x k, w x = k + 1 → (k = 1 ∨ k = 2 ∨ k = 3) → x ≠ B.i ∧ x ≠ B.ma ∧ x ≠ bo := fun x k e hk => ⟨fun e2 => by rw [e2, h.wi] at e; omega, fun e2 => by rw [e2, h.wma] at e; omega, hneb x k e⟩
    have big : ∀ x, nx ≤ x → x ≠ B.i ∧ x ≠ B.ma ∧ x ≠ bo := fun x hx => ⟨fun e2 => by have := h.lt; omega, fun e2 => by have := h.wlt B.ma (by rw [h.wma]; decide); omega, fun e2 => by omega⟩
    rintro x (rfl | e | e)
    · exact key _ 1 h.wp (.inl rfl)
    · rcases ha with rfl | ⟨k, rfl, hk⟩
      · exact key _ 2 (h.wa x e) (.inr (.inl rfl))
      · cases e; exact big _ hk
    · rcases hb with rfl | ⟨k, rfl, hk⟩
      · exact key _ 3 (h.wb x e) (.inr (.inr rfl))
      · cases e; exact big _ hk
  have rest1 : ∀ x k, w x = k + 1 → k ≠ 0 → k ≠ 1 → k ≠ 2 → k ≠ 3 → k ≠ 4 → o3.get x = o.get x := fun x k e h0 h1 h2 h3 h4 => by
    have hx := h.wlt x (by omega)
    rw [hrest x (by omega) (fun e2 => by rw [e2, h.wi] at e; omega) (fun e2 => by rw [e2, h.wma] at e; omega) (hneb x k e)]
    exact hfr x hx (hnp x k e h1 h2 h3)
  obtain ⟨esT, cT, hmT, hmapT⟩ := h.texts
  obtain ⟨esN, cN, hmN, hmapN⟩ := h.noted
  have hneq : ∀ q ∈ hs.objs, q.1 ≠ d := fun q hq e => by
    unfold lookO at hnew
    have := List.find?_eq_none.1 (Option.map_eq_none_iff.1 hnew) q hq
    simp [e] at this
  refine ⟨fun x hx => ?_, old _ 0 h.wi, old _ 1 h.wp, fun q e => ?_, fun q e => ?_, old _ 4 h.wma, old _ 5 h.wmt, old _ 6 h.wmn, ⟨z, hi3⟩, hP1.keep hn3 fun x hx => ?_, ⟨es', c', hma3, ?_⟩, fun q hq => ?_, ⟨esT, cT, ?_, hmapT⟩, ⟨esN, cN, ?_, hmapN⟩⟩
  · unfold markA at hx
    split at hx
    · split at hx
      · rename_i e; have := hP1.sz.lt e; omega
      · split at hx
        · rename_i e; have := hP1.fr.lt e; omega
        · exact absurd rfl hx
    · have := hw1lt x hx; omega
  · rcases ha with rfl | ⟨k, rfl, hk⟩
    · exact old _ 2 (h.wa q e)
    · cases e; unfold markA; rw [if_pos hk, if_pos rfl]
  · rcases hb with rfl | ⟨k, rfl, hk⟩
    · exact old _ 3 (h.wb q e)
    · cases e; unfold markA; rw [if_pos hk, if_neg (fun e2 => hP1.neab _ e2 rfl), if_pos rfl]
  · obtain ⟨h1, h2, h3⟩ := hp1 x hx
    exact hrest x (hP1.mine_lt hx) h1 h2 h3
  · rw [← putK_new hnew bo ob']; exact hmap3
  · rcases List.mem_append.1 hq with hq | hq
    · simp only [hneq q hq, if_false]
      refine (h.obs q hq).keep (by omega) fun x hx hob => ?_
      have e := hob.1
      obtain ⟨k, hk⟩ : ∃ k, w x = k + 1 := ⟨w x - 1, by omega⟩
      refine ⟨rest1 x k hk (by omega) (by omega) (by omega) (by omega) (by omega), ?_⟩
      rw [old x k hk, hk]
    · simp only [List.mem_singleton] at hq
      subst hq
      simp only [if_true]; exact ho3
  · rw [rest1 _ 5 h.wmt (by decide) (by decide) (by decide) (by decide) (by decide)]; exact hmT
  · rw [rest1 _ 6 h.wmn (by decide) (by decide) (by decide) (by decide) (by decide)]; exact hmN
end
end Go.Proofs.YtdfadipfhcikdaaGreatDoor

namespace Go.Proofs.YtdfadipfhcikdaaGreatDoor
open Go.RowKit
set_option linter.unusedSimpArgs false
set_option linter.unusedVariables false
set_option maxRecDepth 100000

theorem take_new {hs : HS} (hG : HGood hs) {size : Int} (h0 : 0 ≤ size) (hroom : ¬ hs.max < hs.pool.used + size) (hc : hs.pool.count < 65536) : (takeP hs.pool size).2.2 = 0 ∧ hasP hs.pool (takeP hs.pool size).2.1 = false ∧ 1 ≤ (takeP hs.pool size).2.1 := by
  have hP := hG.pool
  have hcnt := hP.cnt
  have hb := hG.bound
  unfold takeP
  rw [if_neg (by omega), if_neg (fun h => h.elim (fun h => by omega) (fun h => by omega))]
  by_cases h4 : hs.pool.free.length = 0
  · rw [if_pos h4]
    refine ⟨rfl, ?_, by simp only; omega⟩
    simp only
    unfold hasP
    rw [decide_eq_false (p := (hs.pool.sizes.length : Int) + 1 ≤ hs.pool.sizes.length) (by omega), Bool.and_false]; rfl
  · rw [if_neg h4]
    obtain ⟨k, h1, h2, h3, _⟩ := hP.top (by omega)
    refine ⟨rfl, ?_, by simp only [h1]; omega⟩
    simp only [h1]
    unfold hasP
    rw [show ((k : Int) + 1 - 1).toNat = k from by omega, decide_eq_false (p := 0 ≤ hs.pool.sizes.getD k 0) (by omega), Bool.and_false]
theorem new_key {hs : HS} (hG : HGood hs) {d : Int} (h : hasP hs.pool d = false) : lookO hs.objs d = none := by
  cases e : lookO hs.objs d with
  | none => rfl
  | some ob =>
    have := hG.ids _ (look_mem e)
    simp only at this
    rw [h] at this; cases this
section
variable {O : Helps} {n : Nat} {o : Tr AObj} {nx : Nat} {lg : List Nat} {w : Nat → Nat} {B : HB} {hs : HS}
/-- what add leaves: the object's blocks are marked by w1 -/
def AddTo (o : Tr AObj) (nx : Nat) (lg : List Nat) (w w1 : Nat → Nat) (B : HB) (hs : HS) (ob : Ob) (size : Int) (r : Value × AHeap) : Prop :=
  ∃ o' nx' lg' w' B', r = (.tuple #[vv (addO hs ob size).2.1, .int .i64 (addO hs ob size).2.2], ⟨o', nx', lg'⟩) ∧ nx ≤ nx' ∧ HeapIn o' nx' w' B' (addO hs ob size).1 ∧ B'.i = B.i ∧ (∀ x, x < nx → w1 x = 0 → o'.get x = o.get x ∧ w' x = 0) ∧ (∀ y, y ∈ lg → y ∈ lg') ∧ ((∃ x, x ∈ lg' ∧ w x ≠ 0) ∨ (o' = o ∧ nx' = nx ∧ lg' = lg ∧ w' = w ∧ B' = B ∧ (addO hs ob size).1 = hs))
set_option maxHeartbeats 16000000 in
theorem add_ok (hO : Clear O) (h : HeapIn o nx w B hs) (hG : HGood hs) {w1 : Nat → Nat} (hw1 : ∀ x, w x ≠ 0 → w1 x = w x) (hw1lt : ∀ x, w1 x ≠ 0 → x < nx) {bo : Nat} {ob : Ob} {size : Int} (h0 : 0 ≤ size) (hs2 : size < 1000000) (hc : hs.pool.count < 65536) (hmade : hs.made < 4611686018427387904) (hbo : w bo = 0)
    (hob : ¬ hs.max < hs.pool.used + size → ObIn o nx w1 (takeP hs.pool size).2.1 bo ob) (hn : hs.pool.sizes.length < n) :
    Got (oCall Tryz.prog [] O (n + 4) 14 [.pointer (some ⟨B.i, 0, none⟩), .pointer (some ⟨bo, 0, none⟩), .int .i64 size] ⟨o, nx, lg⟩) (AddTo o nx lg w w1 B hs ob size) := by
  obtain ⟨z, hr⟩ := h.row
  obtain ⟨es, c, hma, hmap⟩ := h.all
  have hi := h.lt
  have hP := hG.pool
  have hu0 := hP.used0
  have hle := hP.le
  have hbd := hG.bound
  have hmx := hG.max
  have hpi := h.pool.lt
  have hmalt := h.wlt B.ma (by rw [h.wma]; decide)
  have hU := fun (X : AObj) (q : Nat) (lg : List Nat) => pused_ok (n := n + 1) (o := o.put nx (some X)) (nx := nx + q) (lg := lg) hO (h.pool.more (by omega) fun x hx => qF _ _ _ _ (by omega))
  have w0 : IntKind.i64.wrap (hs.pool.used + size) = hs.pool.used + size := wrap_small _ (by omega) (by omega)
  rw [y_fn (rs := [.cell 6 29, .tmp 7]) (hO _ (by decide)) Tryz.func14 rfl (by kernel_rfl) rfl rfl]
  by_cases h1 : hs.max < hs.pool.used + size
  · have e : addO hs ob size = (hs, (0, 0), 152) := by unfold addO; rw [if_pos h1]
    repeat (first | with_reducible (first | refine n_on ?_ | refine n_seq ?_ | refine s_else ?_ | refine n_t ?_ | refine n_gt ?_ | refine d_t ?_ | refine n_nil ?_ | refine d_nil ?_ | refine n_block ?_ | refine n_skip ?_ | refine n_bon ?_ | refine n_bback ?_ | refine n_back ?_ | refine n_out ?_ | refine n_bout rfl ?_ | refine n_bfar rfl ?_ | refine n_ret ?_ | refine n_exit ?_ | refine n_label ?_ | refine n_scope ?_ | refine n_son ?_ | refine n_sback ?_) | (with_reducible (first | apply n_region | apply d_region); (simp only [JV, JU, JW, Nat.reduceAdd, Nat.zero_add]; exact rfl)) | (with_reducible (first | apply s_op | apply n_guard | apply n_cond | apply d_guard | apply d_op | apply n_fin | apply n_finb); (simp (maxDischargeDepth := 6) only [sy3.1, zY, qG, qP, qQ, qR, qS, qT, rowAt, ↓jg, ↓ji, Nat.reduceAdd, Nat.reduceEqDiff, ne_eq, jG, Nat.reduceLT, if_true, ite_true, Int.reduceLE, Int.reduceLT, Int.reduceEq, Int.reduceNeg, Int.reduceAdd, Nat.reduceSub, if_false, ite_false, fs_14.1, heapRow, hr, hi, hU, w0, decide_eq_true h1, kind_pure, kind_load, kind_fresh, kind_other, jg, ji, undef]; first | exact rfl | exact ⟨rfl, rfl, rfl, rfl⟩); try (with_reducible refine calmK_in ?_; decide +kernel)))
    refine quiet_end (by simp only [all_relogL, js, ju, List.all_nil, jt, Bool.and_self]) (by rfl) ?_
    unfold AddTo
    rw [e]
    exact ⟨_, _, _, w, B, rfl, Nat.le_refl _, h, rfl, fun x hx hw => ⟨rfl, by
      by_cases e2 : w x = 0
      · exact e2
      · rw [← hw1 x e2]; exact hw⟩, fun _ h => h, .inr ⟨rfl, rfl, rfl, rfl, rfl, rfl⟩⟩
  have d1 := decide_eq_false h1
  obtain ⟨ht0, ht1, ht2⟩ := take_new hG h0 h1 hc
  have hob := hob h1
  obtain ⟨d, hd⟩ : ∃ d, (takeP hs.pool size).2.1 = d := ⟨_, rfl⟩
  rw [hd] at hob ht1 ht2
  have hnew := new_key hG ht1
  obtain ⟨tp, sp, ca, cc, zz, hro, _⟩ := hob.ex
  have hbolt := hob.lt
  repeat (first | with_reducible (first | refine n_on ?_ | refine n_seq ?_ | refine s_else ?_ | refine n_t ?_ | refine n_gt ?_ | refine d_t ?_ | refine n_nil ?_ | refine d_nil ?_ | refine n_block ?_ | refine n_skip ?_ | refine n_bon ?_ | refine n_bback ?_ | refine n_back ?_ | refine n_out ?_ | refine n_bout rfl ?_ | refine n_bfar rfl ?_ | refine n_ret ?_ | refine n_exit ?_ | refine n_label ?_ | refine n_scope ?_ | refine n_son ?_ | refine n_sback ?_) | (with_reducible (first | apply n_region | apply d_region); (simp only [JV, JU, JW, Nat.reduceAdd, Nat.zero_add]; exact rfl)) | (with_reducible (first | apply s_op | apply n_guard | apply n_cond | apply d_guard | apply d_op | apply n_fin | apply n_finb); (simp (maxDischargeDepth := 6) only [sy3.1, zY, qG, qP, qQ, qR, qS, qT, rowAt, ↓jg, ↓ji, Nat.reduceAdd, Nat.reduceEqDiff, ne_eq, jG, Nat.reduceLT, if_true, ite_true, Int.reduceLE, Int.reduceLT, Int.reduceEq, Int.reduceNeg, Int.reduceAdd, Nat.reduceSub, if_false, ite_false, fs_14.1, heapRow, hr, hi, hU, w0, d1, kind_pure, kind_load, kind_fresh, kind_other, jg, ji, undef]; first | exact rfl | exact ⟨rfl, rfl, rfl, rfl⟩); try (with_reducible refine calmK_in ?_; decide +kernel)))
  refine s_do _ (by
    simp (maxDischargeDepth := 6) only [sy3.1, zY, qG, qP, qQ, qR, qS, qT, rowAt, ↓jg, ↓ji, Nat.reduceAdd, Nat.reduceEqDiff, ne_eq, jG, Nat.reduceLT, if_true, ite_true, Int.reduceLE, Int.reduceLT, Int.reduceEq, Int.reduceNeg, Int.reduceAdd, Nat.reduceSub, if_false, ite_false, fs_14.1, hr, hi]
    exact ptake_ok hO (h.pool.more (by omega) fun x hx => qF _ _ _ _ (by omega)) hP size hn) ?_
  rintro v1 H1 ⟨o1, nx1, lg1, a', b', heq, hn1, hP1, hfr1, ha', hb', hmo1, _⟩
  cases heq
  rw [hd, ht0]
  have hPm : ∀ x, x < nx → w x ≠ 2 → w x ≠ 3 → w x ≠ 4 → o1.get x = o.get x := fun x hx h2 h3 h4 => by
    rw [hfr1 x (by omega) (fun hm => by
      rcases hm with rfl | e | e
      · exact h2 h.wp
      · exact h3 (h.wa x e)
      · exact h4 (h.wb x e))]
    exact qF _ _ _ _ (by omega)
  have hr1 := (hPm B.i hi (by rw [h.wi]; decide) (by rw [h.wi]; decide) (by rw [h.wi]; decide)).trans hr
  have hma1 := (hPm B.ma hmalt (by rw [h.wma]; decide) (by rw [h.wma]; decide) (by rw [h.wma]; decide)).trans hma
  have hro1 := (hPm bo hbolt (by rw [hbo]; decide) (by rw [hbo]; decide) (by rw [hbo]; decide)).trans hro
  have hnxP : o1.get nx = some (.row [.int .u8 0, .int .i64 0] 29 0 true) := by
    rw [hfr1 nx (by omega) (fun hm => by
      have := h.pool.mine_lt hm
      omega)]
    exact qE _ _ _
  obtain ⟨es', c', hput, hmap'⟩ := map_put key_int Tryz.underlying46 hmap B.ma c d (.pointer (some ⟨bo, 0, none⟩))
  have hib : B.i ≠ bo := fun e => by have := h.wi; rw [e, hbo] at this; cases this
  have hbi := Ne.symm hib
  have hmab : B.ma ≠ bo := fun e => by have := h.wma; rw [e, hbo] at this; cases this
  have hbma := Ne.symm hmab
  have hima : B.i ≠ B.ma := fun e => by have := h.wi; rw [e, h.wma] at this; cases this
  have hmai := Ne.symm hima
  have hnb : nx ≠ bo := by omega
  have hni : nx ≠ B.i := by omega
  have hnma : nx ≠ B.ma := by omega
  have w1' : IntKind.i64.wrap (hs.made + 1) = hs.made + 1 := wrap_small _ (by have := hG.made0; omega) (by omega)
  have hObx : ∀ x, x < nx → isOb w1 d x → x ≠ B.i ∧ x ≠ B.ma ∧ o1.get x = o.get x := fun x hx hb => by
    have hb1 := hb.1
    have hwx : w x = 0 ∨ w x = w1 x := by
      by_cases e : w x = 0
      · exact .inl e
      · exact .inr (hw1 x e).symm
    refine ⟨fun e => ?_, fun e => ?_, hPm x hx (by omega) (by omega) (by omega)⟩
    · rw [e, h.wi] at hwx; rw [e] at hb1; omega
    · rw [e, h.wma] at hwx; rw [e] at hb1; omega
  have hmn : B.mn ≠ bo := fun e => by have := h.wmn; rw [e, hbo] at this; cases this
  have hmni : B.mn ≠ B.i := fun e => by have := h.wmn; rw [e, h.wi] at this; cases this
  have hmnlt := h.wlt B.mn (by rw [h.wmn]; decide)
  have hmnx : B.mn ≠ nx := by omega
  have hmark : markA nx w1 a' b' nx = 0 := by
    unfold markA
    rw [if_pos (Nat.le_refl _), if_neg, if_neg]
    · intro e
      rcases hb' with e2 | ⟨k, e2, hk⟩
      · have := h.pool.fr.lt (e2.symm.trans e); omega
      · rw [e] at e2; cases e2; omega
    · intro e
      rcases ha' with e2 | ⟨k, e2, hk⟩
      · have := h.pool.sz.lt (e2.symm.trans e); omega
      · rw [e] at e2; cases e2; omega
  cases hsr : serialK ob.kind with
  | true =>
    have hk : ob.kind = 5 ∨ (ob.kind ≠ 5 ∧ ob.kind = 6) ∨ (ob.kind ≠ 5 ∧ ob.kind ≠ 6 ∧ ob.kind = 8) := by
      unfold serialK at hsr
      simp only [Bool.or_eq_true, decide_eq_true_eq] at hsr
      omega
    obtain ⟨b5, b6, b8, d5, d6, d8, hb⟩ : ∃ b5 b6 b8, decide (ob.kind = 5) = b5 ∧ decide (ob.kind = 6) = b6 ∧ decide (ob.kind = 8) = b8 ∧ (b5 = true ∨ (b5 = false ∧ b6 = true) ∨ (b5 = false ∧ b6 = false ∧ b8 = true)) := ⟨_, _, _, rfl, rfl, rfl, by simpa using hk⟩
    rcases hb with rfl | ⟨rfl, rfl⟩ | ⟨rfl, rfl, rfl⟩
    all_goals
      repeat (first | with_reducible (first | refine n_on ?_ | refine n_seq ?_ | refine s_else ?_ | refine n_t ?_ | refine n_gt ?_ | refine d_t ?_ | refine n_nil ?_ | refine d_nil ?_ | refine n_block ?_ | refine n_skip ?_ | refine n_bon ?_ | refine n_bback ?_ | refine n_back ?_ | refine n_out ?_ | refine n_bout rfl ?_ | refine n_bfar rfl ?_ | refine n_ret ?_ | refine n_exit ?_ | refine n_label ?_ | refine n_scope ?_ | refine n_son ?_ | refine n_sback ?_) | (with_reducible (first | apply n_region | apply d_region); (simp only [JV, JU, JW, Nat.reduceAdd, Nat.zero_add]; exact rfl)) | (with_reducible (first | apply s_op | apply n_guard | apply n_cond | apply d_guard | apply d_op | apply n_fin | apply n_finb); (simp (maxDischargeDepth := 6) only [sy3.1, zY, qG, qP, qQ, qR, qS, qT, rowAt, ↓jg, ↓ji, Nat.reduceAdd, Nat.reduceEqDiff, ne_eq, jG, Nat.reduceLT, if_true, ite_true, Int.reduceLE, Int.reduceLT, Int.reduceEq, Int.reduceNeg, Int.reduceAdd, Nat.reduceSub, if_false, ite_false, fs_14.1, heapRow, obRow, hr1, hro1, hma1, hput, hib, hbi, hmab, hbma, hima, hmai, hnb, hni, hnma, w1', d5, d6, d8, hnxP, kind_pure, kind_load, kind_fresh, kind_other, jg, ji, undef]; first | exact rfl | exact ⟨rfl, rfl, rfl, rfl⟩); try (with_reducible refine calmK_in ?_; decide +kernel)))
      refine s_do _ (by
        simp (maxDischargeDepth := 6) only [sy3.1, zY, qG, qP, qQ, qR, qS, qT, rowAt, ↓jg, ↓ji, Nat.reduceAdd, Nat.reduceEqDiff, ne_eq, jG, Nat.reduceLT, if_true, ite_true, Int.reduceLE, Int.reduceLT, Int.reduceEq, Int.reduceNeg, Int.reduceAdd, Nat.reduceSub, if_false, ite_false, fs_14.1]
        refine note_ok hO (heap_added (z := z) (m := (hs.made + 1)) (d := d) (bo := bo) (ob' := { ob with serial := (hs.made + 1) }) h hw1 hw1lt (by omega) hP1 (fun x hx hm => (hfr1 x (by omega) hm).trans (qF _ _ _ _ (by omega))) (ha'.imp id fun ⟨k, e, hk⟩ => ⟨k, e, by omega⟩) (hb'.imp id fun ⟨k, e, hk⟩ => ⟨k, e, by omega⟩) (nx3 := _) (by omega) hnew hbo
          (by (repeat (first | rw [qE] | rw [qF _ _ _ _ (by omega)]))) (hob.serialed hro (by omega) (by (repeat (first | rw [qE] | rw [qF _ _ _ _ (by omega)]))) (fun x hx hob2 hxb => ?_) (fun x hx _ => markA_old hx)) (qE _ _ _) hmap' (fun x hx hxi hxm hxb => by (repeat (first | rw [qE] | rw [qF _ _ _ _ (by omega)])))) d
        obtain ⟨e1, e2, e3⟩ := hObx x hx hob2
        (repeat (first | rw [qE] | rw [qF _ _ _ _ (by omega)]))
        exact e3) ?_
      rintro v2 H2 ⟨o2, nx2, lg2, heq, hn2, hH2, hfr2, hmo2⟩
      cases heq
      have hro2 : o2.get bo = some (.row (obRow { ob with serial := hs.made + 1 } tp sp ca cc) 57 zz true) := by
        rw [hfr2 bo (by omega) (Ne.symm hmn)]; (repeat (first | rw [qE] | rw [qF _ _ _ _ (by omega)]))
      have hnx2 : o2.get nx = some (.row [.int .u8 0, .int .i64 0] 29 0 true) := by
        rw [hfr2 nx (by omega) (Ne.symm hmnx)]; (repeat (first | rw [qE] | rw [qF _ _ _ _ (by omega)])); exact hnxP
      repeat (first | with_reducible (first | refine n_on ?_ | refine n_seq ?_ | refine s_else ?_ | refine n_t ?_ | refine n_gt ?_ | refine d_t ?_ | refine n_nil ?_ | refine d_nil ?_ | refine n_block ?_ | refine n_skip ?_ | refine n_bon ?_ | refine n_bback ?_ | refine n_back ?_ | refine n_out ?_ | refine n_bout rfl ?_ | refine n_bfar rfl ?_ | refine n_ret ?_ | refine n_exit ?_ | refine n_label ?_ | refine n_scope ?_ | refine n_son ?_ | refine n_sback ?_) | (with_reducible (first | apply n_region | apply d_region); (simp only [JV, JU, JW, Nat.reduceAdd, Nat.zero_add]; exact rfl)) | (with_reducible (first | apply s_op | apply n_guard | apply n_cond | apply d_guard | apply d_op | apply n_fin | apply n_finb); (simp (maxDischargeDepth := 6) only [sy3.1, zY, qG, qP, qQ, qR, qS, qT, rowAt, ↓jg, ↓ji, Nat.reduceAdd, Nat.reduceEqDiff, ne_eq, jG, Nat.reduceLT, if_true, ite_true, Int.reduceLE, Int.reduceLT, Int.reduceEq, Int.reduceNeg, Int.reduceAdd, Nat.reduceSub, if_false, ite_false, fs_14.1, obRow, hro2, hnx2, kind_pure, kind_load, kind_fresh, kind_other, jg, ji, undef]; first | exact rfl | exact ⟨rfl, rfl, rfl, rfl⟩); try (with_reducible refine calmK_in ?_; decide +kernel)))
      refine loud_end (x := B.ma) (by simp only [in_note, hmo2 B.ma (by simp only [in_note, true_or, or_true]), or_true]) hmalt fun l' hmo hin => ?_
      have hA : addO hs ob size = ({ hs with made := hs.made + 1, pool := (takeP hs.pool size).1, objs := hs.objs ++ [(d, { ob with serial := hs.made + 1 })], noted := noteL hs d }, (ob.kind, d), 0) := by
        unfold addO; rw [if_neg h1, hd, hsr]; rfl
      unfold AddTo
      rw [hA]
      refine ⟨_, _, _, _, _, rfl, by omega, hH2.keep (nx' := _) (w' := markA nx w1 a' b') (by omega) (fun x hx => by have := hH2.wlt x hx; omega) fun x hx => ⟨?_, rfl⟩, rfl, fun x hx hwx => ⟨?_, ?_⟩, hmo, .inl ⟨B.ma, hin _ (by simp only [in_note, hmo2 B.ma (by simp only [in_note, true_or, or_true]), or_true]) hmalt, by rw [h.wma]; decide⟩⟩
      · have : x ≠ nx := fun e => hx (by rw [e]; exact hmark)
        (repeat (first | rw [qE] | rw [qF _ _ _ _ (by omega)]))
      · have e1 : x ≠ B.i := fun e => by rw [e, hw1 _ (by rw [h.wi]; decide), h.wi] at hwx; cases hwx
        have e2 : x ≠ B.ma := fun e => by rw [e, hw1 _ (by rw [h.wma]; decide), h.wma] at hwx; cases hwx
        have e3 : x ≠ B.mn := fun e => by rw [e, hw1 _ (by rw [h.wmn]; decide), h.wmn] at hwx; cases hwx
        have e4 : x ≠ bo := fun e => by have := hob.own; rw [← e, hwx] at this; omega
        have e5 : w x = 0 := by
          by_cases e : w x = 0
          · exact e
          · rw [← hw1 x e]; exact hwx
        (repeat (first | rw [qE] | rw [qF _ _ _ _ (by omega)]))
        rw [hfr2 x (by omega) e3]
        (repeat (first | rw [qE] | rw [qF _ _ _ _ (by omega)]))
        exact hPm x hx (by omega) (by omega) (by omega)
      · rw [markA_old hx]; exact hwx
  | false =>
    have d5 : decide (ob.kind = 5) = false := by unfold serialK at hsr; simp only [Bool.or_eq_false_iff] at hsr; exact hsr.1
    have d6 : decide (ob.kind = 6) = false := by unfold serialK at hsr; simp only [Bool.or_eq_false_iff] at hsr; exact hsr.2.1
    have d8 : decide (ob.kind = 8) = false := by unfold serialK at hsr; simp only [Bool.or_eq_false_iff] at hsr; exact hsr.2.2
    all_goals
      repeat (first | with_reducible (first | refine n_on ?_ | refine n_seq ?_ | refine s_else ?_ | refine n_t ?_ | refine n_gt ?_ | refine d_t ?_ | refine n_nil ?_ | refine d_nil ?_ | refine n_block ?_ | refine n_skip ?_ | refine n_bon ?_ | refine n_bback ?_ | refine n_back ?_ | refine n_out ?_ | refine n_bout rfl ?_ | refine n_bfar rfl ?_ | refine n_ret ?_ | refine n_exit ?_ | refine n_label ?_ | refine n_scope ?_ | refine n_son ?_ | refine n_sback ?_) | (with_reducible (first | apply n_region | apply d_region); (simp only [JV, JU, JW, Nat.reduceAdd, Nat.zero_add]; exact rfl)) | (with_reducible (first | apply s_op | apply n_guard | apply n_cond | apply d_guard | apply d_op | apply n_fin | apply n_finb); (simp (maxDischargeDepth := 6) only [sy3.1, zY, qG, qP, qQ, qR, qS, qT, rowAt, ↓jg, ↓ji, Nat.reduceAdd, Nat.reduceEqDiff, ne_eq, jG, Nat.reduceLT, if_true, ite_true, Int.reduceLE, Int.reduceLT, Int.reduceEq, Int.reduceNeg, Int.reduceAdd, Nat.reduceSub, if_false, ite_false, fs_14.1, heapRow, obRow, hr1, hro1, hma1, hput, hib, hbi, hmab, hbma, hima, hmai, hnb, hni, hnma, w1', d5, d6, d8, hnxP, kind_pure, kind_load, kind_fresh, kind_other, jg, ji, undef]; first | exact rfl | exact ⟨rfl, rfl, rfl, rfl⟩); try (with_reducible refine calmK_in ?_; decide +kernel)))
      refine s_do _ (by
        simp (maxDischargeDepth := 6) only [sy3.1, zY, qG, qP, qQ, qR, qS, qT, rowAt, ↓jg, ↓ji, Nat.reduceAdd, Nat.reduceEqDiff, ne_eq, jG, Nat.reduceLT, if_true, ite_true, Int.reduceLE, Int.reduceLT, Int.reduceEq, Int.reduceNeg, Int.reduceAdd, Nat.reduceSub, if_false, ite_false, fs_14.1]
        refine note_ok hO (heap_added (z := z) (m := hs.made) (d := d) (bo := bo) (ob' := { ob with serial := ob.serial }) h hw1 hw1lt (by omega) hP1 (fun x hx hm => (hfr1 x (by omega) hm).trans (qF _ _ _ _ (by omega))) (ha'.imp id fun ⟨k, e, hk⟩ => ⟨k, e, by omega⟩) (hb'.imp id fun ⟨k, e, hk⟩ => ⟨k, e, by omega⟩) (nx3 := _) (by omega) hnew hbo
          (by rw [qF _ _ _ _ hima]; exact hr1) (hob.serialed hro (by omega) (by (repeat (first | rw [qE] | rw [qF _ _ _ _ (by omega)])); exact hro1) (fun x hx hob2 hxb => ?_) (fun x hx _ => markA_old hx)) (qE _ _ _) hmap' (fun x hx hxi hxm hxb => by (repeat (first | rw [qE] | rw [qF _ _ _ _ (by omega)])))) d
        obtain ⟨e1, e2, e3⟩ := hObx x hx hob2
        (repeat (first | rw [qE] | rw [qF _ _ _ _ (by omega)]))
        exact e3) ?_
      rintro v2 H2 ⟨o2, nx2, lg2, heq, hn2, hH2, hfr2, hmo2⟩
      cases heq
      have hro2 : o2.get bo = some (.row (obRow { ob with serial := ob.serial } tp sp ca cc) 57 zz true) := by
        rw [hfr2 bo (by omega) (Ne.symm hmn)]; (repeat (first | rw [qE] | rw [qF _ _ _ _ (by omega)])); exact hro1
      have hnx2 : o2.get nx = some (.row [.int .u8 0, .int .i64 0] 29 0 true) := by
        rw [hfr2 nx (by omega) (Ne.symm hmnx)]; (repeat (first | rw [qE] | rw [qF _ _ _ _ (by omega)])); exact hnxP
      repeat (first | with_reducible (first | refine n_on ?_ | refine n_seq ?_ | refine s_else ?_ | refine n_t ?_ | refine n_gt ?_ | refine d_t ?_ | refine n_nil ?_ | refine d_nil ?_ | refine n_block ?_ | refine n_skip ?_ | refine n_bon ?_ | refine n_bback ?_ | refine n_back ?_ | refine n_out ?_ | refine n_bout rfl ?_ | refine n_bfar rfl ?_ | refine n_ret ?_ | refine n_exit ?_ | refine n_label ?_ | refine n_scope ?_ | refine n_son ?_ | refine n_sback ?_) | (with_reducible (first | apply n_region | apply d_region); (simp only [JV, JU, JW, Nat.reduceAdd, Nat.zero_add]; exact rfl)) | (with_reducible (first | apply s_op | apply n_guard | apply n_cond | apply d_guard | apply d_op | apply n_fin | apply n_finb); (simp (maxDischargeDepth := 6) only [sy3.1, zY, qG, qP, qQ, qR, qS, qT, rowAt, ↓jg, ↓ji, Nat.reduceAdd, Nat.reduceEqDiff, ne_eq, jG, Nat.reduceLT, if_true, ite_true, Int.reduceLE, Int.reduceLT, Int.reduceEq, Int.reduceNeg, Int.reduceAdd, Nat.reduceSub, if_false, ite_false, fs_14.1, obRow, hro2, hnx2, kind_pure, kind_load, kind_fresh, kind_other, jg, ji, undef]; first | exact rfl | exact ⟨rfl, rfl, rfl, rfl⟩); try (with_reducible refine calmK_in ?_; decide +kernel)))
      refine loud_end (x := B.ma) (by simp only [in_note, hmo2 B.ma (by simp only [in_note, true_or, or_true]), or_true]) hmalt fun l' hmo hin => ?_
      have hA : addO hs ob size = ({ hs with made := hs.made, pool := (takeP hs.pool size).1, objs := hs.objs ++ [(d, { ob with serial := ob.serial })], noted := noteL hs d }, (ob.kind, d), 0) := by
        unfold addO; rw [if_neg h1, hd, hsr]; rfl
      unfold AddTo
      rw [hA]
      refine ⟨_, _, _, _, _, rfl, by omega, hH2.keep (nx' := _) (w' := markA nx w1 a' b') (by omega) (fun x hx => by have := hH2.wlt x hx; omega) fun x hx => ⟨?_, rfl⟩, rfl, fun x hx hwx => ⟨?_, ?_⟩, hmo, .inl ⟨B.ma, hin _ (by simp only [in_note, hmo2 B.ma (by simp only [in_note, true_or, or_true]), or_true]) hmalt, by rw [h.wma]; decide⟩⟩
      · have : x ≠ nx := fun e => hx (by rw [e]; exact hmark)
        (repeat (first | rw [qE] | rw [qF _ _ _ _ (by omega)]))
      · have e1 : x ≠ B.i := fun e => by rw [e, hw1 _ (by rw [h.wi]; decide), h.wi] at hwx; cases hwx
        have e2 : x ≠ B.ma := fun e => by rw [e, hw1 _ (by rw [h.wma]; decide), h.wma] at hwx; cases hwx
        have e3 : x ≠ B.mn := fun e => by rw [e, hw1 _ (by rw [h.wmn]; decide), h.wmn] at hwx; cases hwx
        have e4 : x ≠ bo := fun e => by have := hob.own; rw [← e, hwx] at this; omega
        have e5 : w x = 0 := by
          by_cases e : w x = 0
          · exact e
          · rw [← hw1 x e]; exact hwx
        (repeat (first | rw [qE] | rw [qF _ _ _ _ (by omega)]))
        rw [hfr2 x (by omega) e3]
        (repeat (first | rw [qE] | rw [qF _ _ _ _ (by omega)]))
        exact hPm x hx (by omega) (by omega) (by omega)
      · rw [markA_old hx]; exact hwx
end
end Go.Proofs.YtdfadipfhcikdaaGreatDoor
