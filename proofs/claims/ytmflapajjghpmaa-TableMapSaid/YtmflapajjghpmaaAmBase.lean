/- An abstract machine beside the model's: blocks have numbers of its own, nothing is drawn. Values, memory, and how they stand to the model's. No program in sight. -/
import Derived.WalkKit
import Derived.Orders
import Derived.Laws.Cells
namespace Go.Proofs.Ytmflapajjghpmaa
open Go.RowKit

/-! ### a map from numbers -/
inductive Tr (α : Type) where
  | nil
  | node (l : Tr α) (v : Option α) (r : Tr α)

def Tr.get {α : Type} : Tr α → Nat → Option α
  | .nil, _ => none
  | .node l v r, k => match k with
    | 0 => v
    | k + 1 => cond (Nat.beq (k % 2) 0) (l.get (k / 2)) (r.get (k / 2))

def Tr.set {α : Type} : Nat → Tr α → Nat → Option α → Tr α
  | 0, t, _, _ => t
  | n + 1, t, k, v => match t with
    | .nil => match k with
      | 0 => .node .nil v .nil
      | k + 1 => cond (Nat.beq (k % 2) 0) (.node (Tr.set n .nil (k / 2) v) none .nil) (.node .nil none (Tr.set n .nil (k / 2) v))
    | .node l x r => match k with
      | 0 => .node l v r
      | k + 1 => cond (Nat.beq (k % 2) 0) (.node (Tr.set n l (k / 2) v) x r) (.node l x (Tr.set n r (k / 2) v))

def Tr.put {α : Type} (t : Tr α) (k : Nat) (v : Option α) : Tr α := Tr.set (k + 1) t k v

theorem Tr.get_nil {α : Type} (k : Nat) : (Tr.nil : Tr α).get k = none := by unfold Tr.get; rfl

theorem bq (a : Nat) : Nat.beq a 0 = true ↔ a = 0 := Nat.beq_eq ▸ Iff.rfl

theorem Tr.get_set {α : Type} : ∀ (n : Nat) (t : Tr α) (k : Nat) (v : Option α) (j : Nat), k < n → (Tr.set n t k v).get j = if j = k then v else t.get j
  | 0, _, _, _, _, h => by omega
  | n + 1, t, k, v, j, h => by
    have ih := fun (t : Tr α) (k j : Nat) (h : k < n) => Tr.get_set n t k v j h
    cases t with
    | nil =>
      cases k with
      | zero => cases j with
        | zero => simp [Tr.set, Tr.get]
        | succ j => simp [Tr.set, Tr.get]
      | succ k =>
        cases j with
        | zero =>
          simp only [Tr.set]
          cases hb : Nat.beq (k % 2) 0 <;> simp [Tr.get]
        | succ j =>
          simp only [Tr.set]
          have h2 := ih .nil (k / 2) (j / 2) (by omega)
          have e : (j + 1 = k + 1) ↔ (j / 2 = k / 2 ∧ j % 2 = k % 2) := by omega
          have hb := bq (k % 2)
          have hc := bq (j % 2)
          revert hb hc
          cases Nat.beq (k % 2) 0 <;> cases hj : Nat.beq (j % 2) 0 <;> simp only [Tr.get, cond, hj, h2, e] <;> intro hb hc <;> simp only [true_iff, false_iff, Bool.false_eq_true] at hb hc <;> (repeat' split) <;> first | rfl | omega
    | node l x r =>
      cases k with
      | zero => cases j with
        | zero => simp [Tr.set, Tr.get]
        | succ j => simp [Tr.set, Tr.get]
      | succ k =>
        cases j with
        | zero =>
          simp only [Tr.set]
          cases hb : Nat.beq (k % 2) 0 <;> simp [Tr.get]
        | succ j =>
          simp only [Tr.set]
          have h2 := ih l (k / 2) (j / 2) (by omega)
          have h3 := ih r (k / 2) (j / 2) (by omega)
          have e : (j + 1 = k + 1) ↔ (j / 2 = k / 2 ∧ j % 2 = k % 2) := by omega
          have hb := bq (k % 2)
          have hc := bq (j % 2)
          revert hb hc
          cases Nat.beq (k % 2) 0 <;> cases hj : Nat.beq (j % 2) 0 <;> simp only [Tr.get, cond, hj, h2, h3, e] <;> intro hb hc <;> simp only [true_iff, false_iff, Bool.false_eq_true] at hb hc <;> (repeat' split) <;> first | rfl | omega

theorem Tr.get_put {α : Type} (t : Tr α) (k : Nat) (v : Option α) (j : Nat) : (t.put k v).get j = if j = k then v else t.get j := Tr.get_set _ _ _ _ _ (by omega)

/-! ### the abstract memory -/
/-- what lies under a number: cells (the call's own or a guest's), a map, a string's iterator -/
inductive AObj where
  | row (cells : List Value) (elem : TypeId) (esz : Nat) (own : Bool)
  | map (es : List MapEntry) (clock : Nat)
  | iter (s : ByteArray) (pos : Nat)
def AObj.own : AObj → Bool
  | .row _ _ _ o => o
  | _ => true

structure AHeap where
  objs : Tr AObj
  next : Nat
  log : List Nat

def AHeap.get (H : AHeap) (i : Nat) : Option AObj := H.objs.get i
/-- a written number, noted -/
def noteId (i : Nat) (l : List Nat) : List Nat := cond (l.any (Nat.beq i)) l (i :: l)
def AHeap.upd (H : AHeap) (i : Nat) (o : Option AObj) : AHeap := { H with objs := H.objs.put i o, log := noteId i H.log }
def AHeap.add (H : AHeap) (i : Nat) (o : AObj) : AHeap := { H with objs := H.objs.put i (some o) }

theorem AHeap.get_upd (H : AHeap) (i : Nat) (o : Option AObj) (j : Nat) : (H.upd i o).get j = if j = i then o else H.get j := Tr.get_put ..
theorem AHeap.get_add (H : AHeap) (i : Nat) (o : AObj) (j : Nat) : (H.add i o).get j = if j = i then some o else H.get j := Tr.get_put ..

/-! ### where an abstract block lies -/
structure Spot where
  blk : Nat
  shift : Nat
  esz : Nat
  tot : Nat
  own : Bool
abbrev Ren := Nat → Option Spot
def Ren.le (β β' : Ren) : Prop := ∀ i s, β i = some s → β' i = some s
theorem Ren.le_refl (β : Ren) : β.le β := fun _ _ h => h
theorem Ren.le_trans {a b c : Ren} (h : a.le b) (k : b.le c) : a.le c := fun i s hi => k i s (h i s hi)
def Ren.put (β : Ren) (i : Nat) (s : Spot) : Ren := fun j => if j = i then some s else β j
theorem Ren.put_same (β : Ren) (i : Nat) (s : Spot) : (β.put i s) i = some s := by simp [Ren.put]
theorem Ren.put_other (β : Ren) {i j : Nat} (s : Spot) (h : j ≠ i) : (β.put i s) j = β j := by simp [Ren.put, h]
theorem Ren.le_put (β : Ren) (i : Nat) (s : Spot) (h : β i = none) : β.le (β.put i s) := by
  intro j t hj
  by_cases e : j = i
  · subst e; rw [h] at hj; cases hj
  · rw [Ren.put_other β s e]; exact hj

/-- an abstract value and the model's -/
inductive VR (β : Ren) : Value → Value → Prop where
  | bool (b : Bool) : VR β (.bool b) (.bool b)
  | int (k : IntKind) (n : Int) : VR β (.int k n) (.int k n)
  | float (k : FloatKind) (n : Nat) : VR β (.float k n) (.float k n)
  | string (s : ByteArray) : VR β (.string s) (.string s)
  | ptr0 : VR β (.pointer none) (.pointer none)
  | ptr {i o : Nat} {s : Spot} (h : β i = some s) : VR β (.pointer (some ⟨i, o, none⟩)) (.pointer (some ⟨s.blk, s.shift + o, none⟩))
  | slice0 : VR β (.slice none 0 0) (.slice none 0 0)
  | slice {i o n c c' : Nat} {s : Spot} (h : β i = some s) (hn : n ≤ c') (hm : c' ≤ 9223372036854775807) (hc : c = c' + 1 ∨ (c = 0 ∧ (s.own = true → s.shift + o + c' * s.esz ≤ s.tot))) :
      VR β (.slice (some ⟨i, o, none⟩) n c) (.slice (some ⟨s.blk, s.shift + o, none⟩) n c')
  | sliceE {i o p c' : Nat} {s : Spot} (h : β i = some s) (hm : c' ≤ 9223372036854775807) (hc : s.own = true → p + c' * s.esz ≤ s.tot) : VR β (.slice (some ⟨i, o, none⟩) 0 0) (.slice (some ⟨s.blk, p, none⟩) 0 c')
  | map0 : VR β (.map none) (.map none)
  | map {i : Nat} {s : Spot} (h : β i = some s) : VR β (.map (some i)) (.map (some s.blk))
  | nilFunc : VR β .nilFunc .nilFunc
  | func {fn : Fn} {a a' c c' : Array Value} (ha : a.size = a'.size) (hc : c.size = c'.size) (h1 : ∀ (j : Nat) (x y : Value), a[j]? = some x → a'[j]? = some y → VR β x y) (h2 : ∀ (j : Nat) (x y : Value), c[j]? = some x → c'[j]? = some y → VR β x y) : VR β (.func fn a c) (.func fn a' c')
  | nilIface : VR β .nilIface .nilIface
  | iface {t : TypeId} {v v' : Value} (h : VR β v v') : VR β (.iface t v) (.iface t v')
  | agg {a a' : Array Value} (ha : a.size = a'.size) (h1 : ∀ (j : Nat) (x y : Value), a[j]? = some x → a'[j]? = some y → VR β x y) : VR β (.agg a) (.agg a')
  | tuple {a a' : Array Value} (ha : a.size = a'.size) (h1 : ∀ (j : Nat) (x y : Value), a[j]? = some x → a'[j]? = some y → VR β x y) : VR β (.tuple a) (.tuple a')

theorem VR.mono {β β' : Ren} (h : β.le β') {v v' : Value} (hv : VR β v v') : VR β' v v' := by
  induction hv with
  | bool b => exact .bool b
  | int k n => exact .int k n
  | float k n => exact .float k n
  | string s => exact .string s
  | ptr0 => exact .ptr0
  | ptr h1 => exact .ptr (h _ _ h1)
  | slice0 => exact .slice0
  | slice h1 hn hm hc => exact .slice (h _ _ h1) hn hm hc
  | sliceE h1 hm hc => exact .sliceE (h _ _ h1) hm hc
  | map0 => exact .map0
  | map h1 => exact .map (h _ _ h1)
  | nilFunc => exact .nilFunc
  | func ha hc _ _ i1 i2 => exact .func ha hc i1 i2
  | nilIface => exact .nilIface
  | iface _ i => exact .iface i
  | agg ha _ i => exact .agg ha i
  | tuple ha _ i => exact .tuple ha i

/-- a value of which all blocks are known to the smaller naming is so by it -/
theorem VR.back {β β' : Ren} (h : β.le β') {v x : Value} (hv : VR β v x) : ∀ {y : Value}, VR β' v y → VR β v y := by
  induction hv with
  | bool b => intro y hy; cases hy; exact .bool b
  | int k n => intro y hy; cases hy; exact .int k n
  | float k n => intro y hy; cases hy; exact .float k n
  | string s => intro y hy; cases hy; exact .string s
  | ptr0 => intro y hy; cases hy; exact .ptr0
  | ptr h1 =>
    intro y hy
    cases hy with
    | ptr h2 => have e := (h _ _ h1).symm.trans h2; cases e; exact .ptr h1
  | slice0 => intro y hy; cases hy; exact .slice0
  | slice h1 hn hm hc =>
    intro y hy
    cases hy with
    | slice h2 hn2 hm2 hc2 => have e := (h _ _ h1).symm.trans h2; cases e; exact .slice h1 hn2 hm2 hc2
    | sliceE h2 hm2 hc2 => have e := (h _ _ h1).symm.trans h2; cases e; exact .sliceE h1 hm2 hc2
  | sliceE h1 hm hc =>
    intro y hy
    cases hy with
    | slice h2 hn2 hm2 hc2 => have e := (h _ _ h1).symm.trans h2; cases e; exact .slice h1 hn2 hm2 hc2
    | sliceE h2 hm2 hc2 => have e := (h _ _ h1).symm.trans h2; cases e; exact .sliceE h1 hm2 hc2
  | map0 => intro y hy; cases hy; exact .map0
  | map h1 =>
    intro y hy
    cases hy with
    | map h2 => have e := (h _ _ h1).symm.trans h2; cases e; exact .map h1
  | nilFunc => intro y hy; cases hy; exact .nilFunc
  | @func fn a a' c c' ha hc h1 h2 i1 i2 =>
    intro y hy
    cases hy with
    | func ha2 hc2 g1 g2 =>
      refine .func ha2 hc2 (fun j x y hx hy => ?_) (fun j x y hx hy => ?_)
      · have hj := (Array.getElem?_eq_some_iff.1 hx).1
        exact i1 j x (a'[j]'(by omega)) hx (by simp) (g1 j x y hx hy)
      · have hj := (Array.getElem?_eq_some_iff.1 hx).1
        exact i2 j x (c'[j]'(by omega)) hx (by simp) (g2 j x y hx hy)
  | nilIface => intro y hy; cases hy; exact .nilIface
  | iface _ i => intro y hy; cases hy with | iface h2 => exact .iface (i h2)
  | @agg a a' ha _ i1 =>
    intro y hy
    cases hy with
    | agg ha2 g1 =>
      refine .agg ha2 (fun j x y hx hy => ?_)
      have hj := (Array.getElem?_eq_some_iff.1 hx).1
      exact i1 j x (a'[j]'(by omega)) hx (by simp) (g1 j x y hx hy)
  | @tuple a a' ha _ i1 =>
    intro y hy
    cases hy with
    | tuple ha2 g1 =>
      refine .tuple ha2 (fun j x y hx hy => ?_)
      have hj := (Array.getElem?_eq_some_iff.1 hx).1
      exact i1 j x (a'[j]'(by omega)) hx (by simp) (g1 j x y hx hy)

/-! ### values without blocks -/
def flat1 : Value → Bool
  | .bool _ | .int _ _ | .float _ _ | .string _ | .pointer none | .map none | .nilFunc | .nilIface => true
  | .slice none n c => Nat.beq n 0 && Nat.beq c 0
  | _ => false
def flat2 : Value → Bool
  | .agg a => a.toList.all flat1
  | v => flat1 v
def flat : Value → Bool
  | .tuple a => a.toList.all flat2
  | v => flat2 v

theorem flat1_vr {v : Value} (h : flat1 v = true) (β : Ren) : VR β v v ∧ ∀ v', VR β v v' → v' = v := by
  cases v with
  | bool b => exact ⟨.bool b, fun v' h => by cases h; rfl⟩
  | int k n => exact ⟨.int k n, fun v' h => by cases h; rfl⟩
  | float k n => exact ⟨.float k n, fun v' h => by cases h; rfl⟩
  | string s => exact ⟨.string s, fun v' h => by cases h; rfl⟩
  | pointer a => cases a with
    | none => exact ⟨.ptr0, fun v' h => by cases h; rfl⟩
    | some a => simp [flat1] at h
  | map a => cases a with
    | none => exact ⟨.map0, fun v' h => by cases h; rfl⟩
    | some a => simp [flat1] at h
  | slice a n c => cases a with
    | none =>
      simp [flat1] at h
      obtain ⟨rfl, rfl⟩ := h
      exact ⟨.slice0, fun v' h => by cases h; rfl⟩
    | some a => simp [flat1] at h
  | nilFunc => exact ⟨.nilFunc, fun v' h => by cases h; rfl⟩
  | nilIface => exact ⟨.nilIface, fun v' h => by cases h; rfl⟩
  | _ => simp [flat1] at h

theorem arr_same {a a' : Array Value} (hs : a.size = a'.size) (h : ∀ (j : Nat) (x y : Value), a[j]? = some x → a'[j]? = some y → y = x) : a' = a := by
  apply Array.ext (by omega)
  intro j h1 h2
  exact h j a[j] a'[j] (by simp) (by simp)
theorem arr_all {p : Value → Bool} {a : Array Value} (h : a.toList.all p = true) {j : Nat} {x : Value} (hx : a[j]? = some x) : p x = true := by
  rw [List.all_eq_true] at h
  exact h x (Array.mem_toList_iff.2 (Array.mem_of_getElem? hx))

theorem flat2_vr {v : Value} (h : flat2 v = true) (β : Ren) : VR β v v ∧ ∀ v', VR β v v' → v' = v := by
  cases v with
  | agg a =>
    simp only [flat2] at h
    refine ⟨.agg rfl fun j x y hx hy => ?_, fun v' hv => ?_⟩
    · rw [hx] at hy; cases hy; exact (flat1_vr (arr_all h hx) β).1
    · cases hv with | agg hs h1 => rw [arr_same hs fun j x y hx hy => (flat1_vr (arr_all h hx) β).2 y (h1 j x y hx hy)]
  | _ => exact flat1_vr (by simpa only [flat2] using h) β
theorem flat_vr {v : Value} (h : flat v = true) (β : Ren) : VR β v v ∧ ∀ v', VR β v v' → v' = v := by
  cases v with
  | tuple a =>
    simp only [flat] at h
    refine ⟨.tuple rfl fun j x y hx hy => ?_, fun v' hv => ?_⟩
    · rw [hx] at hy; cases hy; exact (flat2_vr (arr_all h hx) β).1
    · cases hv with | tuple hs h1 => rw [arr_same hs fun j x y hx hy => (flat2_vr (arr_all h hx) β).2 y (h1 j x y hx hy)]
  | _ => exact flat2_vr (by simpa only [flat] using h) β

/-! ### values whose blocks have numbers below a bound -/
def low1 (n : Nat) : Value → Bool
  | .pointer (some a) => Nat.blt a.block n
  | .slice (some a) _ _ => Nat.blt a.block n
  | .map (some i) => Nat.blt i n
  | v => flat1 v
def low2 (n : Nat) : Value → Bool
  | .agg a => a.toList.all (low1 n)
  | v => low1 n v
def lowV (n : Nat) : Value → Bool
  | .tuple a => a.toList.all (low2 n)
  | v => low2 n v

def Ren.agree (n : Nat) (β β' : Ren) : Prop := ∀ i, i < n → β' i = β i

theorem low1_vr {n : Nat} {β β' : Ren} (hb : Ren.agree n β β') {v v' : Value} (h : low1 n v = true) (hv : VR β' v v') : VR β v v' := by
  cases v with
  | pointer a => cases a with
    | none => cases hv; exact .ptr0
    | some a =>
      cases hv with
      | ptr h1 =>
        simp [low1, Nat.blt_eq] at h
        rw [hb _ h] at h1; exact .ptr h1
  | slice a m c => cases a with
    | none => cases hv; exact .slice0
    | some a =>
      cases hv with
      | slice h1 hn hm hc =>
        simp [low1, Nat.blt_eq] at h
        rw [hb _ h] at h1; exact .slice h1 hn hm hc
      | sliceE h1 hm hc =>
        simp [low1, Nat.blt_eq] at h
        rw [hb _ h] at h1; exact .sliceE h1 hm hc
  | map a => cases a with
    | none => cases hv; exact .map0
    | some a =>
      cases hv with
      | map h1 =>
        simp [low1, Nat.blt_eq] at h
        rw [hb _ h] at h1; exact .map h1
  | bool b => cases hv; exact .bool b
  | int k m => cases hv; exact .int k m
  | float k m => cases hv; exact .float k m
  | string s => cases hv; exact .string s
  | nilFunc => cases hv; exact .nilFunc
  | nilIface => cases hv; exact .nilIface
  | _ => simp [low1, flat1] at h
theorem low2_vr {n : Nat} {β β' : Ren} (hb : Ren.agree n β β') {v v' : Value} (h : low2 n v = true) (hv : VR β' v v') : VR β v v' := by
  cases v with
  | agg a =>
    simp only [low2] at h
    cases hv with | agg hs h1 => exact .agg hs fun j x y hx hy => low1_vr hb (arr_all h hx) (h1 j x y hx hy)
  | _ => exact low1_vr hb (by simpa only [low2] using h) hv
theorem lowV_vr {n : Nat} {β β' : Ren} (hb : Ren.agree n β β') {v v' : Value} (h : lowV n v = true) (hv : VR β' v v') : VR β v v' := by
  cases v with
  | tuple a =>
    simp only [lowV] at h
    cases hv with | tuple hs h1 => exact .tuple hs fun j x y hx hy => low2_vr hb (arr_all h hx) (h1 j x y hx hy)
  | _ => exact low2_vr hb (by simpa only [lowV] using h) hv
end Go.Proofs.Ytmflapajjghpmaa
