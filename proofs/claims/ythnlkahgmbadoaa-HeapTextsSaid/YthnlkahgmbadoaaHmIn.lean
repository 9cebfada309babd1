/- Heap: objects as plain data, and how they lie in the abstract memory. -/
import Derived.Test.YthnlkahgmbadoaaTabDef
import Derived.Test.YthnlkahgmbadoaaPmNew
namespace Go.Proofs.Ythnlkahgmbadoaa
open Go.RowKit
set_option linter.unusedSimpArgs false
set_option linter.unusedVariables false
set_option maxRecDepth 100000

/-- an object -/
structure Ob where
  kind : Int
  serial : Int
  text : ByteArray
  tab : List (VV × VV)
  mt : VV
  proto : Int
  cells : List VV
  has : VV
structure HS where
  max : Int
  made : Int
  watch : Bool
  pool : PS
  objs : List (Int × Ob)
  texts : List (ByteArray × Int)
  noted : List Int
/-- where a heap's parts lie -/
structure HB where
  i : Nat
  p : Nat
  a : Option Nat
  b : Option Nat
  ma : Nat
  mt : Nat
  mn : Nat
  bl : Int → Nat

/-! ### keys -/
theorem key_int : KeyBy Try.prog 3 (Value.int .i64) where
  chk b x := by kernel_rfl
  flat x := rfl
  bits x := by simp [Instr.sameBits]
  desc := ⟨_, Try.underlying3, .inl fun x y => by simp only [Instr.sameNow]; by_cases e : x = y <;> simp [e]⟩
theorem ba_beq (x y : ByteArray) : (x == y) = decide (x = y) := by
  obtain ⟨a⟩ := x
  obtain ⟨b⟩ := y
  have e : ((⟨a⟩ : ByteArray) == ⟨b⟩) = (a == b) := rfl
  rw [e]
  by_cases h : a = b <;> simp [h]
theorem key_str : KeyBy Try.prog 9 Value.string where
  chk b x := by kernel_rfl
  flat x := rfl
  bits x := by simp only [Instr.sameBits]; rw [ba_beq]; exact decide_eq_true rfl
  desc := ⟨_, Try.underlying9, .inl fun x y => by simp only [Instr.sameNow]; rw [ba_beq]⟩

/-! ### rows -/
def vvCells (l : List VV) : List Value := l.flatMap fun v => [.int .u8 v.1, .int .i64 v.2]
/-- values in a row -/
def ValsIn (o : Tr AObj) (nx : Nat) (a : Option Nat) (l : List VV) : Prop :=
  (a = none ∧ l = []) ∨ ∃ j rest, a = some j ∧ j < nx ∧ o.get j = some (.row (vvCells l ++ rest) 30 2 true)
theorem ValsIn.keep {o o' : Tr AObj} {nx nx' : Nat} {a : Option Nat} {l : List VV} (h : ValsIn o nx a l) (hn : nx ≤ nx') (hk : ∀ j, a = some j → o'.get j = o.get j) : ValsIn o' nx' a l := by
  rcases h with h | ⟨j, rest, rfl, h1, h2⟩
  · exact .inl h
  · exact .inr ⟨j, rest, rfl, Nat.lt_of_lt_of_le h1 hn, (hk j rfl).trans h2⟩
abbrev obRow (ob : Ob) (tp sp : Option Addr) (ca : Option Nat) (cc : Nat) : List Value :=
  [.int .u8 ob.kind, .int .i64 ob.serial, .string ob.text, .pointer tp, .int .u8 ob.mt.1, .int .i64 ob.mt.2, .int .i64 ob.proto, .slice (slA ca) ob.cells.length cc, .int .u8 ob.has.1, .int .i64 ob.has.2, .pointer sp]
/-- an object in its blocks, which are marked in w -/
structure ObIn (o : Tr AObj) (nx : Nat) (w : Nat → Nat) (d : Int) (b : Nat) (ob : Ob) : Prop where
  lt : b < nx
  own : w b = 8 + 5 * d.toNat
  ex : ∃ tp sp ca cc z, o.get b = some (.row (obRow ob tp sp ca cc) 72 z true) ∧ ValsIn o nx ca ob.cells ∧ (cc = 0 ∨ (cc = 1 ∧ ob.cells = [] ∧ ca ≠ none)) ∧ (∀ q, ca = some q → w q = 9 + 5 * d.toNat) ∧
    (ob.kind = 5 → ∃ ti tm ta, tp = some ⟨ti, 0, none⟩ ∧ TabIn o nx ti tm ta ob.tab ∧ w ti = 10 + 5 * d.toNat ∧ w tm = 11 + 5 * d.toNat ∧ ∀ q, ta = some q → w q = 12 + 5 * d.toNat)
/-- blocks of one object -/
def isOb (w : Nat → Nat) (d : Int) (x : Nat) : Prop := 8 + 5 * d.toNat ≤ w x ∧ w x ≤ 12 + 5 * d.toNat
theorem ObIn.keep {o o' : Tr AObj} {nx nx' : Nat} {w w' : Nat → Nat} {d : Int} {b : Nat} {ob : Ob} (h : ObIn o nx w d b ob) (hn : nx ≤ nx') (hk : ∀ x, x < nx → isOb w d x → o'.get x = o.get x ∧ w' x = w x) : ObIn o' nx' w' d b ob := by
  obtain ⟨tp, sp, ca, cc, z, h1, h2, hcc, h3, h4⟩ := h.ex
  have hb := hk b h.lt ⟨by rw [h.own]; omega, by rw [h.own]; omega⟩
  have hca : ∀ q, ca = some q → q < nx ∧ isOb w d q := fun q e => ⟨by
    rcases h2 with ⟨e2, _⟩ | ⟨j, _, e2, hj, _⟩
    · rw [e] at e2; cases e2
    · rw [e] at e2; cases e2; exact hj, by rw [isOb, h3 q e]; omega⟩
  refine ⟨Nat.lt_of_lt_of_le h.lt hn, by rw [hb.2]; exact h.own, tp, sp, ca, cc, z, by rw [hb.1]; exact h1, h2.keep hn fun q e => (hk q (hca q e).1 (hca q e).2).1, hcc, fun q e => by rw [(hk q (hca q e).1 (hca q e).2).2]; exact h3 q e, fun h5 => ?_⟩
  obtain ⟨ti, tm, ta, e1, e2, e3, e4, e5⟩ := h4 h5
  have k1 := hk ti e2.lt (by rw [isOb, e3]; omega)
  have k2 := hk tm e2.ltm (by rw [isOb, e4]; omega)
  have k3 : ∀ q, ta = some q → o'.get q = o.get q ∧ w' q = w q := fun q e => hk q (e2.mine_lt (.inr (.inr e))) (by rw [isOb, e5 q e]; omega)
  refine ⟨ti, tm, ta, e1, e2.keep hn fun x hx => ?_, by rw [k1.2]; exact e3, by rw [k2.2]; exact e4, fun q e => by rw [(k3 q e).2]; exact e5 q e⟩
  rcases hx with rfl | rfl | hx
  · exact k1.1
  · exact k2.1
  · exact (k3 x hx).1
abbrev objKV (B : HB) (l : List (Int × Ob)) : List (Int × Value) := l.map fun q => (q.1, .pointer (some ⟨B.bl q.1, 0, none⟩))
abbrev heapRow (B : HB) (hs : HS) : List Value := [.int .i64 hs.max, .pointer (some ⟨B.p, 0, none⟩), .map (some B.ma), .map (some B.mt), .int .i64 hs.made, .bool hs.watch, .map (some B.mn)]
/-- a heap in its blocks -/
structure HeapIn (o : Tr AObj) (nx : Nat) (w : Nat → Nat) (B : HB) (hs : HS) : Prop where
  wlt : ∀ x, w x ≠ 0 → x < nx
  wi : w B.i = 1
  wp : w B.p = 2
  wa : ∀ q, B.a = some q → w q = 3
  wb : ∀ q, B.b = some q → w q = 4
  wma : w B.ma = 5
  wmt : w B.mt = 6
  wmn : w B.mn = 7
  row : ∃ z, o.get B.i = some (.row (heapRow B hs) 64 z true)
  pool : PoolIn o nx B.p B.a B.b hs.pool
  all : ∃ es c, o.get B.ma = some (.map es c) ∧ MapIs (Value.int .i64) es (objKV B hs.objs)
  obs : ∀ q ∈ hs.objs, ObIn o nx w q.1 (B.bl q.1) q.2
  texts : ∃ es c, o.get B.mt = some (.map es c) ∧ MapIs Value.string es (hs.texts.map fun q => (q.1, .int .i64 q.2))
  noted : ∃ es c, o.get B.mn = some (.map es c) ∧ MapIs (Value.int .i64) es (hs.noted.map fun q => (q, .bool true))
theorem HeapIn.lt {o : Tr AObj} {nx : Nat} {w : Nat → Nat} {B : HB} {hs : HS} (h : HeapIn o nx w B hs) : B.i < nx := h.wlt _ (by rw [h.wi]; decide)
theorem HeapIn.keep {o o' : Tr AObj} {nx nx' : Nat} {w w' : Nat → Nat} {B : HB} {hs : HS} (h : HeapIn o nx w B hs) (hn : nx ≤ nx') (hlt : ∀ x, w' x ≠ 0 → x < nx') (hk : ∀ x, w x ≠ 0 → o'.get x = o.get x ∧ w' x = w x) : HeapIn o' nx' w' B hs := by
  have k : ∀ x n, w x = n + 1 → o'.get x = o.get x ∧ w' x = n + 1 := fun x n e => by
    have := hk x (by omega); exact ⟨this.1, by omega⟩
  refine ⟨hlt, (k _ 0 h.wi).2, (k _ 1 h.wp).2, fun q e => (k _ 2 (h.wa q e)).2, fun q e => (k _ 3 (h.wb q e)).2, (k _ 4 h.wma).2, (k _ 5 h.wmt).2, (k _ 6 h.wmn).2, ?_, h.pool.keep hn ?_, ?_, fun q hq => (h.obs q hq).keep hn fun x hx hob => hk x (by have := hob.1; omega), ?_, ?_⟩
  · rw [(k _ 0 h.wi).1]; exact h.row
  · rintro x (rfl | e | e)
    · exact (k _ 1 h.wp).1
    · exact (k _ 2 (h.wa x e)).1
    · exact (k _ 3 (h.wb x e)).1
  · rw [(k _ 4 h.wma).1]; exact h.all
  · rw [(k _ 5 h.wmt).1]; exact h.texts
  · rw [(k _ 6 h.wmn).1]; exact h.noted
/-- new things beside it -/
theorem HeapIn.more {o o' : Tr AObj} {nx nx' : Nat} {w : Nat → Nat} {B : HB} {hs : HS} (h : HeapIn o nx w B hs) (hn : nx ≤ nx') (hk : ∀ x, x < nx → o'.get x = o.get x) : HeapIn o' nx' w B hs :=
  h.keep hn (fun x hx => Nat.lt_of_lt_of_le (h.wlt x hx) hn) fun x hx => ⟨hk x (h.wlt x hx), rfl⟩
end Go.Proofs.Ythnlkahgmbadoaa
