/- An abstract machine beside the model's: blocks have numbers of its own, nothing is drawn. Values, memory, and how they stand to the model's. No program in sight. -/
import Derived.WalkKit
import Derived.Orders
import Derived.Laws.Cells
import Derived.Laws.Append
import Derived.Laws.MakeOwn
import Derived.WalkSpells
import Derived.Laws.Pointers
import Derived.MapKept
import Derived.Laws.BytesString
set_option linter.unusedSimpArgs false
set_option linter.unusedVariables false
namespace Go.Proofs.YtdfadipfhcikdaaGreatDoor
open Go.RowKit

/-! ### a map from numbers -/
inductive Tr (α : Type) where
  | nil
  | node (l : Tr α) (v : Option α) (r : Tr α)

def Tr.get {α : Type} : Tr α → Nat → Option α
  | .nil, _ => none
  | .node l v r, k => match k with
    | 0 => v
    | k + 1 => cond (Nat.beq (k % 2) 0) (l.get (k / 2)) (r.get (k / 2))

def Tr.set {α : Type} : Nat → Tr α → Nat → Option α → Tr α
  | 0, t, _, _ => t
  | n + 1, t, k, v => match t with
    | .nil => match k with
      | 0 => .node .nil v .nil
      | k + 1 => cond (Nat.beq (k % 2) 0) (.node (Tr.set n .nil (k / 2) v) none .nil) (.node .nil none (Tr.set n .nil (k / 2) v))
    | .node l x r => match k with
      | 0 => .node l v r
      | k + 1 => cond (Nat.beq (k % 2) 0) (.node (Tr.set n l (k / 2) v) x r) (.node l x (Tr.set n r (k / 2) v))

def Tr.put {α : Type} (t : Tr α) (k : Nat) (v : Option α) : Tr α := Tr.set (k + 1) t k v

theorem Tr.get_nil {α : Type} (k : Nat) : (Tr.nil : Tr α).get k = none := by unfold Tr.get; rfl

theorem bq (a : Nat) : Nat.beq a 0 = true ↔ a = 0 := Nat.beq_eq ▸ Iff.rfl

theorem Tr.get_set {α : Type} : ∀ (n : Nat) (t : Tr α) (k : Nat) (v : Option α) (j : Nat), k < n → (Tr.set n t k v).get j = if j = k then v else t.get j
  | 0, _, _, _, _, h => by omega
  | n + 1, t, k, v, j, h => by
    have ih := fun (t : Tr α) (k j : Nat) (h : k < n) => Tr.get_set n t k v j h
    cases t with
    | nil =>
      cases k with
      | zero => cases j with
        | zero => simp [Tr.set, Tr.get]
        | succ j => simp [Tr.set, Tr.get]
      | succ k =>
        cases j with
        | zero =>
          simp only [Tr.set]
          cases hb : Nat.beq (k % 2) 0 <;> simp [Tr.get]
        | succ j =>
          simp only [Tr.set]
          have h2 := ih .nil (k / 2) (j / 2) (by omega)
          have e : (j + 1 = k + 1) ↔ (j / 2 = k / 2 ∧ j % 2 = k % 2) := by omega
          have hb := bq (k % 2)
          have hc := bq (j % 2)
          revert hb hc
          cases Nat.beq (k % 2) 0 <;> cases hj : Nat.beq (j % 2) 0 <;> simp only [Tr.get, cond, hj, h2, e] <;> intro hb hc <;> simp only [true_iff, false_iff, Bool.false_eq_true] at hb hc <;> (repeat' split) <;> first | rfl | omega
    | node l x r =>
      cases k with
      | zero => cases j with
        | zero => simp [Tr.set, Tr.get]
        | succ j => simp [Tr.set, Tr.get]
      | succ k =>
        cases j with
        | zero =>
          simp only [Tr.set]
          cases hb : Nat.beq (k % 2) 0 <;> simp [Tr.get]
        | succ j =>
          simp only [Tr.set]
          have h2 := ih l (k / 2) (j / 2) (by omega)
          have h3 := ih r (k / 2) (j / 2) (by omega)
          have e : (j + 1 = k + 1) ↔ (j / 2 = k / 2 ∧ j % 2 = k % 2) := by omega
          have hb := bq (k % 2)
          have hc := bq (j % 2)
          revert hb hc
          cases Nat.beq (k % 2) 0 <;> cases hj : Nat.beq (j % 2) 0 <;> simp only [Tr.get, cond, hj, h2, h3, e] <;> intro hb hc <;> simp only [true_iff, false_iff, Bool.false_eq_true] at hb hc <;> (repeat' split) <;> first | rfl | omega

theorem Tr.get_put {α : Type} (t : Tr α) (k : Nat) (v : Option α) (j : Nat) : (t.put k v).get j = if j = k then v else t.get j := Tr.get_set _ _ _ _ _ (by omega)

/-! ### the abstract memory -/
/-- what lies under a number: cells (the call's own or a guest's), a map, a string's iterator -/
inductive AObj where
  | row (cells : List Value) (elem : TypeId) (esz : Nat) (own : Bool)
  | map (es : List MapEntry) (clock : Nat)
  | iter (s : ByteArray) (pos : Nat)
def AObj.own : AObj → Bool
  | .row _ _ _ o => o
  | _ => true

structure AHeap where
  objs : Tr AObj
  next : Nat
  log : List Nat

def AHeap.get (H : AHeap) (i : Nat) : Option AObj := H.objs.get i
/-- a written number, noted -/
def noteId (i : Nat) (l : List Nat) : List Nat := cond (l.any (Nat.beq i)) l (i :: l)
def AHeap.upd (H : AHeap) (i : Nat) (o : Option AObj) : AHeap := { H with objs := H.objs.put i o, log := noteId i H.log }
def AHeap.add (H : AHeap) (i : Nat) (o : AObj) : AHeap := { H with objs := H.objs.put i (some o) }

theorem AHeap.get_upd (H : AHeap) (i : Nat) (o : Option AObj) (j : Nat) : (H.upd i o).get j = if j = i then o else H.get j := Tr.get_put ..
theorem AHeap.get_add (H : AHeap) (i : Nat) (o : AObj) (j : Nat) : (H.add i o).get j = if j = i then some o else H.get j := Tr.get_put ..

/-! ### where an abstract block lies -/
structure Spot where
  blk : Nat
  shift : Nat
  esz : Nat
  tot : Nat
  own : Bool
abbrev Ren := Nat → Option Spot
def Ren.le (β β' : Ren) : Prop := ∀ i s, β i = some s → β' i = some s
theorem Ren.le_refl (β : Ren) : β.le β := fun _ _ h => h
theorem Ren.le_trans {a b c : Ren} (h : a.le b) (k : b.le c) : a.le c := fun i s hi => k i s (h i s hi)
def Ren.put (β : Ren) (i : Nat) (s : Spot) : Ren := fun j => if j = i then some s else β j
theorem Ren.put_same (β : Ren) (i : Nat) (s : Spot) : (β.put i s) i = some s := by simp [Ren.put]
theorem Ren.put_other (β : Ren) {i j : Nat} (s : Spot) (h : j ≠ i) : (β.put i s) j = β j := by simp [Ren.put, h]
theorem Ren.le_put (β : Ren) (i : Nat) (s : Spot) (h : β i = none) : β.le (β.put i s) := by
  intro j t hj
  by_cases e : j = i
  · subst e; rw [h] at hj; cases hj
  · rw [Ren.put_other β s e]; exact hj

/-- an abstract value and the model's -/
inductive VR (β : Ren) : Value → Value → Prop where
  | bool (b : Bool) : VR β (.bool b) (.bool b)
  | int (k : IntKind) (n : Int) : VR β (.int k n) (.int k n)
  | wide {n : Nat} {s : Spot} (h : β 0 = some s) (h1 : n / 1048576 % 1048576 ≤ s.tot) (h2 : s.tot ≤ n / 1099511627776) (h3 : n / 1099511627776 < 1048576) : VR β (.float .f64 n) (.int .i64 ((s.tot : Int) - (n % 1048576 : Nat)))
  | pick {n : Nat} {x : Int} {s : Spot} (h : β 0 = some s) (h1 : n / 1048576 % 1048576 ≤ s.tot) (h2 : s.tot ≤ n / 1099511627776) (h3 : n / 1099511627776 < 1048576) (hp : (s.tot : Int) = x % 400 + 1) : VR β (.float .f32 n) (.int .i64 x)
  | string (s : ByteArray) : VR β (.string s) (.string s)
  | ptr0 : VR β (.pointer none) (.pointer none)
  | ptr {i o : Nat} {s : Spot} (h : β i = some s) : VR β (.pointer (some ⟨i, o, none⟩)) (.pointer (some ⟨s.blk, s.shift + o, none⟩))
  | slice0 : VR β (.slice none 0 0) (.slice none 0 0)
  | slice {i o n c c' : Nat} {s : Spot} (h : β i = some s) (hn : n ≤ c') (hm : c' ≤ 9223372036854775807) (hc : c = c' + 1 ∨ (c = 0 ∧ (s.own = true → s.shift + o + c' * s.esz ≤ s.tot))) :
      VR β (.slice (some ⟨i, o, none⟩) n c) (.slice (some ⟨s.blk, s.shift + o, none⟩) n c')
  | sliceE {i o p c' : Nat} {s : Spot} (h : β i = some s) (hm : c' ≤ 9223372036854775807) (hc : s.own = true → p + c' * s.esz ≤ s.tot) : VR β (.slice (some ⟨i, o, none⟩) 0 0) (.slice (some ⟨s.blk, p, none⟩) 0 c')
  | map0 : VR β (.map none) (.map none)
  | map {i : Nat} {s : Spot} (h : β i = some s) : VR β (.map (some i)) (.map (some s.blk))
  | nilFunc : VR β .nilFunc .nilFunc
  | func {fn : Fn} {a a' c c' : Array Value} (ha : a.size = a'.size) (hc : c.size = c'.size) (h1 : ∀ (j : Nat) (x y : Value), a[j]? = some x → a'[j]? = some y → VR β x y) (h2 : ∀ (j : Nat) (x y : Value), c[j]? = some x → c'[j]? = some y → VR β x y) : VR β (.func fn a c) (.func fn a' c')
  | nilIface : VR β .nilIface .nilIface
  | iface {t : TypeId} {v v' : Value} (h : VR β v v') : VR β (.iface t v) (.iface t v')
  | agg {a a' : Array Value} (ha : a.size = a'.size) (h1 : ∀ (j : Nat) (x y : Value), a[j]? = some x → a'[j]? = some y → VR β x y) : VR β (.agg a) (.agg a')
  | tuple {a a' : Array Value} (ha : a.size = a'.size) (h1 : ∀ (j : Nat) (x y : Value), a[j]? = some x → a'[j]? = some y → VR β x y) : VR β (.tuple a) (.tuple a')

theorem VR.mono {β β' : Ren} (h : β.le β') {v v' : Value} (hv : VR β v v') : VR β' v v' := by
  induction hv with
  | bool b => exact .bool b
  | int k n => exact .int k n
  | wide h0 h1 h2 h3 => exact .wide (h _ _ h0) h1 h2 h3
  | pick h0 h1 h2 h3 hp => exact .pick (h _ _ h0) h1 h2 h3 hp
  | string s => exact .string s
  | ptr0 => exact .ptr0
  | ptr h1 => exact .ptr (h _ _ h1)
  | slice0 => exact .slice0
  | slice h1 hn hm hc => exact .slice (h _ _ h1) hn hm hc
  | sliceE h1 hm hc => exact .sliceE (h _ _ h1) hm hc
  | map0 => exact .map0
  | map h1 => exact .map (h _ _ h1)
  | nilFunc => exact .nilFunc
  | func ha hc _ _ i1 i2 => exact .func ha hc i1 i2
  | nilIface => exact .nilIface
  | iface _ i => exact .iface i
  | agg ha _ i => exact .agg ha i
  | tuple ha _ i => exact .tuple ha i

/-- a value of which all blocks are known to the smaller naming is so by it -/
theorem VR.back {β β' : Ren} (h : β.le β') {v x : Value} (hv : VR β v x) : ∀ {y : Value}, VR β' v y → VR β v y := by
  induction hv with
  | bool b => intro y hy; cases hy; exact .bool b
  | int k n => intro y hy; cases hy; exact .int k n
  | wide h0 h1 h2 h3 =>
    intro y hy
    cases hy with
    | wide g0 _ _ _ => have e := (h _ _ h0).symm.trans g0; cases e; exact .wide h0 h1 h2 h3
  | pick h0 h1 h2 h3 hp =>
    intro y hy
    cases hy with
    | pick g0 _ _ _ gp => have e := (h _ _ h0).symm.trans g0; cases e; exact .pick h0 h1 h2 h3 gp
  | string s => intro y hy; cases hy; exact .string s
  | ptr0 => intro y hy; cases hy; exact .ptr0
  | ptr h1 =>
    intro y hy
    cases hy with
    | ptr h2 => have e := (h _ _ h1).symm.trans h2; cases e; exact .ptr h1
  | slice0 => intro y hy; cases hy; exact .slice0
  | slice h1 hn hm hc =>
    intro y hy
    cases hy with
    | slice h2 hn2 hm2 hc2 => have e := (h _ _ h1).symm.trans h2; cases e; exact .slice h1 hn2 hm2 hc2
    | sliceE h2 hm2 hc2 => have e := (h _ _ h1).symm.trans h2; cases e; exact .sliceE h1 hm2 hc2
  | sliceE h1 hm hc =>
    intro y hy
    cases hy with
    | slice h2 hn2 hm2 hc2 => have e := (h _ _ h1).symm.trans h2; cases e; exact .slice h1 hn2 hm2 hc2
    | sliceE h2 hm2 hc2 => have e := (h _ _ h1).symm.trans h2; cases e; exact .sliceE h1 hm2 hc2
  | map0 => intro y hy; cases hy; exact .map0
  | map h1 =>
    intro y hy
    cases hy with
    | map h2 => have e := (h _ _ h1).symm.trans h2; cases e; exact .map h1
  | nilFunc => intro y hy; cases hy; exact .nilFunc
  | @func fn a a' c c' ha hc h1 h2 i1 i2 =>
    intro y hy
    cases hy with
    | func ha2 hc2 g1 g2 =>
      refine .func ha2 hc2 (fun j x y hx hy => ?_) (fun j x y hx hy => ?_)
      · have hj := (Array.getElem?_eq_some_iff.1 hx).1
        exact i1 j x (a'[j]'(by omega)) hx (by simp) (g1 j x y hx hy)
      · have hj := (Array.getElem?_eq_some_iff.1 hx).1
        exact i2 j x (c'[j]'(by omega)) hx (by simp) (g2 j x y hx hy)
  | nilIface => intro y hy; cases hy; exact .nilIface
  | iface _ i => intro y hy; cases hy with | iface h2 => exact .iface (i h2)
  | @agg a a' ha _ i1 =>
    intro y hy
    cases hy with
    | agg ha2 g1 =>
      refine .agg ha2 (fun j x y hx hy => ?_)
      have hj := (Array.getElem?_eq_some_iff.1 hx).1
      exact i1 j x (a'[j]'(by omega)) hx (by simp) (g1 j x y hx hy)
  | @tuple a a' ha _ i1 =>
    intro y hy
    cases hy with
    | tuple ha2 g1 =>
      refine .tuple ha2 (fun j x y hx hy => ?_)
      have hj := (Array.getElem?_eq_some_iff.1 hx).1
      exact i1 j x (a'[j]'(by omega)) hx (by simp) (g1 j x y hx hy)

/-! ### values without blocks -/
def flat1 : Value → Bool
  | .bool _ | .int _ _ | .string _ | .pointer none | .map none | .nilFunc | .nilIface => true
  | .slice none n c => Nat.beq n 0 && Nat.beq c 0
  | _ => false
def flat2 : Value → Bool
  | .agg a => a.toList.all flat1
  | v => flat1 v
def flat : Value → Bool
  | .tuple a => a.toList.all flat2
  | v => flat2 v

theorem flat1_vr {v : Value} (h : flat1 v = true) (β : Ren) : VR β v v ∧ ∀ v', VR β v v' → v' = v := by
  cases v with
  | bool b => exact ⟨.bool b, fun v' h => by cases h; rfl⟩
  | int k n => exact ⟨.int k n, fun v' h => by cases h; rfl⟩
  | string s => exact ⟨.string s, fun v' h => by cases h; rfl⟩
  | pointer a => cases a with
    | none => exact ⟨.ptr0, fun v' h => by cases h; rfl⟩
    | some a => simp [flat1] at h
  | map a => cases a with
    | none => exact ⟨.map0, fun v' h => by cases h; rfl⟩
    | some a => simp [flat1] at h
  | slice a n c => cases a with
    | none =>
      simp [flat1] at h
      obtain ⟨rfl, rfl⟩ := h
      exact ⟨.slice0, fun v' h => by cases h; rfl⟩
    | some a => simp [flat1] at h
  | nilFunc => exact ⟨.nilFunc, fun v' h => by cases h; rfl⟩
  | nilIface => exact ⟨.nilIface, fun v' h => by cases h; rfl⟩
  | _ => simp [flat1] at h

theorem arr_same {a a' : Array Value} (hs : a.size = a'.size) (h : ∀ (j : Nat) (x y : Value), a[j]? = some x → a'[j]? = some y → y = x) : a' = a := by
  apply Array.ext (by omega)
  intro j h1 h2
  exact h j a[j] a'[j] (by simp) (by simp)
theorem arr_all {p : Value → Bool} {a : Array Value} (h : a.toList.all p = true) {j : Nat} {x : Value} (hx : a[j]? = some x) : p x = true := by
  rw [List.all_eq_true] at h
  exact h x (Array.mem_toList_iff.2 (Array.mem_of_getElem? hx))

theorem flat2_vr {v : Value} (h : flat2 v = true) (β : Ren) : VR β v v ∧ ∀ v', VR β v v' → v' = v := by
  cases v with
  | agg a =>
    simp only [flat2] at h
    refine ⟨.agg rfl fun j x y hx hy => ?_, fun v' hv => ?_⟩
    · rw [hx] at hy; cases hy; exact (flat1_vr (arr_all h hx) β).1
    · cases hv with | agg hs h1 => rw [arr_same hs fun j x y hx hy => (flat1_vr (arr_all h hx) β).2 y (h1 j x y hx hy)]
  | _ => exact flat1_vr (by simpa only [flat2] using h) β
theorem flat_vr {v : Value} (h : flat v = true) (β : Ren) : VR β v v ∧ ∀ v', VR β v v' → v' = v := by
  cases v with
  | tuple a =>
    simp only [flat] at h
    refine ⟨.tuple rfl fun j x y hx hy => ?_, fun v' hv => ?_⟩
    · rw [hx] at hy; cases hy; exact (flat2_vr (arr_all h hx) β).1
    · cases hv with | tuple hs h1 => rw [arr_same hs fun j x y hx hy => (flat2_vr (arr_all h hx) β).2 y (h1 j x y hx hy)]
  | _ => exact flat2_vr (by simpa only [flat] using h) β

/-! ### values whose blocks have numbers below a bound -/
def low1 (n : Nat) : Value → Bool
  | .pointer (some a) => Nat.blt a.block n
  | .slice (some a) _ _ => Nat.blt a.block n
  | .map (some i) => Nat.blt i n
  | .float _ _ => Nat.blt 0 n
  | v => flat1 v
def low2 (n : Nat) : Value → Bool
  | .agg a => a.toList.all (low1 n)
  | v => low1 n v
def lowV (n : Nat) : Value → Bool
  | .tuple a => a.toList.all (low2 n)
  | v => low2 n v

def Ren.agree (n : Nat) (β β' : Ren) : Prop := ∀ i, i < n → β' i = β i

theorem low1_vr {n : Nat} {β β' : Ren} (hb : Ren.agree n β β') {v v' : Value} (h : low1 n v = true) (hv : VR β' v v') : VR β v v' := by
  cases v with
  | pointer a => cases a with
    | none => cases hv; exact .ptr0
    | some a =>
      cases hv with
      | ptr h1 =>
        simp [low1, Nat.blt_eq] at h
        rw [hb _ h] at h1; exact .ptr h1
  | slice a m c => cases a with
    | none => cases hv; exact .slice0
    | some a =>
      cases hv with
      | slice h1 hn hm hc =>
        simp [low1, Nat.blt_eq] at h
        rw [hb _ h] at h1; exact .slice h1 hn hm hc
      | sliceE h1 hm hc =>
        simp [low1, Nat.blt_eq] at h
        rw [hb _ h] at h1; exact .sliceE h1 hm hc
  | map a => cases a with
    | none => cases hv; exact .map0
    | some a =>
      cases hv with
      | map h1 =>
        simp [low1, Nat.blt_eq] at h
        rw [hb _ h] at h1; exact .map h1
  | bool b => cases hv; exact .bool b
  | int k m => cases hv; exact .int k m
  | float k m =>
    simp [low1, Nat.blt_eq] at h
    cases hv with
    | wide h0 h1 h2 h3 => rw [hb _ h] at h0; exact .wide h0 h1 h2 h3
    | pick h0 h1 h2 h3 hp => rw [hb _ h] at h0; exact .pick h0 h1 h2 h3 hp
  | string s => cases hv; exact .string s
  | nilFunc => cases hv; exact .nilFunc
  | nilIface => cases hv; exact .nilIface
  | _ => simp [low1, flat1] at h
theorem low2_vr {n : Nat} {β β' : Ren} (hb : Ren.agree n β β') {v v' : Value} (h : low2 n v = true) (hv : VR β' v v') : VR β v v' := by
  cases v with
  | agg a =>
    simp only [low2] at h
    cases hv with | agg hs h1 => exact .agg hs fun j x y hx hy => low1_vr hb (arr_all h hx) (h1 j x y hx hy)
  | _ => exact low1_vr hb (by simpa only [low2] using h) hv
theorem lowV_vr {n : Nat} {β β' : Ren} (hb : Ren.agree n β β') {v v' : Value} (h : lowV n v = true) (hv : VR β' v v') : VR β v v' := by
  cases v with
  | tuple a =>
    simp only [lowV] at h
    cases hv with | tuple hs h1 => exact .tuple hs fun j x y hx hy => low2_vr hb (arr_all h hx) (h1 j x y hx hy)
  | _ => exact low2_vr hb (by simpa only [lowV] using h) hv
end Go.Proofs.YtdfadipfhcikdaaGreatDoor

namespace Go.Proofs.YtdfadipfhcikdaaGreatDoor
open Go.RowKit

/-- a map's entries bear stamps of their own, all below its clock -/
def Born (es : List MapEntry) (clock : Nat) : Prop := (∀ e ∈ es, e.born < clock) ∧ (es.map (·.born)).Nodup
theorem born_nil (clock : Nat) : Born [] clock := ⟨fun e h => (by cases h), .nil⟩
theorem born_push {es : List MapEntry} {clock : Nat} (h : Born es clock) (k v : Value) : Born (es ++ [⟨k, v, clock⟩]) (clock + 1) := by
  refine ⟨fun e he => ?_, ?_⟩
  · rcases List.mem_append.1 he with he | he
    · have := h.1 e he; omega
    · simp only [List.mem_singleton] at he
      subst he
      exact Nat.lt_succ_self _
  · rw [List.map_append, List.nodup_append]
    refine ⟨h.2, by simp, fun a ha b hb e => ?_⟩
    obtain ⟨x, hx, rfl⟩ := List.mem_map.1 ha
    simp only [List.map_cons, List.map_nil, List.mem_singleton] at hb
    have := h.1 x hx
    omega
theorem born_erase {es : List MapEntry} {clock : Nat} (h : Born es clock) (j : Nat) : Born (es.eraseIdx j) clock :=
  ⟨fun e he => h.1 e ((List.eraseIdx_sublist es j).subset he), ((List.eraseIdx_sublist es j).map _).nodup h.2⟩
theorem born_set {es : List MapEntry} {clock j : Nat} {e : MapEntry} (h : Born es clock) (hj : es[j]? = some e) (k v : Value) : Born (es.set j ⟨k, v, e.born⟩) clock := by
  refine ⟨fun x hx => ?_, ?_⟩
  · rcases List.mem_or_eq_of_mem_set hx with h1 | h1
    · exact h.1 x h1
    · rw [h1]; exact h.1 e (List.mem_of_getElem? hj)
  · have : (es.set j ⟨k, v, e.born⟩).map (·.born) = es.map (·.born) := by
      rw [List.map_set]
      obtain ⟨hlt, he⟩ := List.getElem?_eq_some_iff.1 hj
      subst he
      have h2 : es[j].born = (es.map (·.born))[j]'(by simpa using hlt) := by simp
      show (es.map (·.born)).set j es[j].born = _
      rw [h2, List.set_getElem_self]
    rw [this]; exact h.2
def EntryRel (β : Ren) (e e' : MapEntry) : Prop := flat2 e.key = true ∧ e'.key = e.key ∧ e'.born = e.born ∧ VR β e.val e'.val

def ObjOk (β : Ren) (w : World) (s : Spot) : AObj → Prop
  | .row cells elem esz own => own = s.own ∧ (∀ j v, cells[j]? = some v → ∃ v', w.cell? ⟨s.blk, s.shift + j, none⟩ = some v' ∧ VR β v v') ∧
      ((own || Nat.beq esz 0) = true → s.esz = esz ∧ ∃ c fz, w.heap[s.blk]? = some (.cells c elem fz) ∧ c.size = s.tot ∧ ∀ j, (j < s.tot ∨ own = true) → (decide (fz.1 ≤ j) && decide (j < fz.2)) = false)
  | .map es clock => s.own = true ∧ Born es clock ∧ ∃ es', w.heap[s.blk]? = some (.map es' clock) ∧ es'.size = es.length ∧ ∀ (j : Nat) (e e' : MapEntry), es[j]? = some e → es'[j]? = some e' → EntryRel β e e'
  | .iter t pos => s.own = true ∧ s.shift = 0 ∧ w.heap[s.blk]? = some (.stringIter t pos)

theorem ObjOk.own {β : Ren} {w : World} {s : Spot} {o : AObj} (h : ObjOk β w s o) : o.own = s.own := by
  cases o with
  | row c e z own => exact h.1
  | map es c => exact h.1.symm
  | iter t p => exact h.1.symm

theorem ObjOk.mono {β β' : Ren} {w w' : World} {s : Spot} {o : AObj} (h : ObjOk β w s o) (hb : β.le β') (hw : w'.heap[s.blk]? = w.heap[s.blk]?) : ObjOk β' w' s o := by
  cases o with
  | row cells elem esz own =>
    obtain ⟨h1, h2, h3⟩ := h
    refine ⟨h1, fun j v hj => ?_, fun ho => ?_⟩
    · obtain ⟨v', hv, hr⟩ := h2 j v hj
      exact ⟨v', (World.cell?_of_block (w := w) hw).trans hv, hr.mono hb⟩
    · obtain ⟨he, c, fz, hc, hs⟩ := h3 ho
      exact ⟨he, c, fz, hw.trans hc, hs⟩
  | map es clock =>
    obtain ⟨h1, h0, es', h2, h3, h4⟩ := h
    refine ⟨h1, h0, es', hw.trans h2, h3, fun j e e' a b => ?_⟩
    obtain ⟨q1, q2, q3, q4⟩ := h4 j e e' a b
    exact ⟨q1, q2, q3, q4.mono hb⟩
  | iter t pos => exact ⟨h.1, h.2.1, hw.trans h.2.2⟩

structure Rel (β : Ren) (H : AHeap) (w : World) : Prop where
  obj : ∀ i o s, H.get i = some o → β i = some s → ObjOk β w s o
  blk : ∀ i s, β i = some s → s.blk < w.heap.size
  apart : ∀ i j oi oj si sj, H.get i = some oi → H.get j = some oj → β i = some si → β j = some sj → i ≠ j → si.own = true → si.blk ≠ sj.blk
  fresh : ∀ i, H.next ≤ i → β i = none

def OwnB (β : Ren) (H : AHeap) (b : Nat) : Prop := ∃ i o s, H.get i = some o ∧ β i = some s ∧ s.own = true ∧ s.blk = b

def VisB (β : Ren) (H : AHeap) (b : Nat) : Prop := ∃ i o s, H.get i = some o ∧ β i = some s ∧ s.blk = b

structure Goes (β : Ren) (H : AHeap) (w : World) (β' : Ren) (H' : AHeap) (w' : World) : Prop where
  le : β.le β'
  rel : Rel β' H' w'
  os : w'.os = w.os
  tape : w'.tape = w.tape
  output : w'.output = w.output
  size : w.heap.size ≤ w'.heap.size
  keep : ∀ b, b < w.heap.size → ¬ OwnB β H b → w'.heap[b]? = w.heap[b]?
  own : ∀ b, b < w.heap.size → OwnB β' H' b → OwnB β H b
  vis : ∀ b, b < w.heap.size → VisB β' H' b → VisB β H b

theorem Goes.refl {β : Ren} {H : AHeap} {w : World} (h : Rel β H w) : Goes β H w β H w :=
  ⟨β.le_refl, h, rfl, rfl, rfl, Nat.le_refl _, fun _ _ _ => rfl, fun _ _ h => h, fun _ _ h => h⟩
theorem Goes.trans {β β1 β2 : Ren} {H H1 H2 : AHeap} {w w1 w2 : World} (h : Goes β H w β1 H1 w1) (k : Goes β1 H1 w1 β2 H2 w2) : Goes β H w β2 H2 w2 :=
  ⟨Ren.le_trans h.le k.le, k.rel, k.os.trans h.os, k.tape.trans h.tape, k.output.trans h.output, Nat.le_trans h.size k.size,
    fun b hb hn => (k.keep b (Nat.lt_of_lt_of_le hb h.size) (fun ho => hn (h.own b hb ho))).trans (h.keep b hb hn),
    fun b hb ho => h.own b hb (k.own b (Nat.lt_of_lt_of_le hb h.size) ho), fun b hb ho => h.vis b hb (k.vis b (Nat.lt_of_lt_of_le hb h.size) ho)⟩

/-- a draw -/
theorem Rel.drew {β : Ren} {H : AHeap} {w : World} (h : Rel β H w) : Rel β H w.drew :=
  ⟨fun i o s a b => (h.obj i o s a b).mono β.le_refl rfl, h.blk, h.apart, h.fresh⟩
theorem Goes.drew {β : Ren} {H : AHeap} {w : World} (h : Rel β H w) : Goes β H w β H w.drew :=
  ⟨β.le_refl, h.drew, rfl, rfl, rfl, Nat.le_refl _, fun _ _ _ => rfl, fun _ _ h => h, fun _ _ h => h⟩

/-- less is known -/
theorem Rel.less {β : Ren} {H G : AHeap} {w : World} (h : Rel β H w) (hg : ∀ i o s, G.get i = some o → β i = some s → H.get i = some o) (hn : ∀ i, G.next ≤ i → β i = none) : Rel β G w :=
  ⟨fun i o s a b => h.obj i o s (hg i o s a b) b, h.blk, fun i j oi oj si sj a b c d => h.apart i j oi oj si sj (hg _ _ _ a c) (hg _ _ _ b d) c d, hn⟩

/-- a new block -/
theorem Goes.alloc {β : Ren} {H : AHeap} {w : World} (h : Rel β H w) (id : Nat) (hid : β id = none) (O : Obj) (o : AObj) (s : Spot) (hs : s.blk = w.heap.size) (hown : s.own = true)
    (ho : ∀ β', β.le β' → β' id = some s → ObjOk β' (w.alloc O) s o) (next' : Nat) (hn : id < next') (hn' : H.next ≤ next') :
    Goes β H w (β.put id s) { H.add id o with next := next' } (w.alloc O) := by
  have hle : β.le (β.put id s) := β.le_put id s hid
  have hget : ∀ i, ({ H.add id o with next := next' } : AHeap).get i = if i = id then some o else H.get i := fun i => AHeap.get_add H id o i
  have hold : ∀ {i : Nat} {si : Spot}, β.put id s i = some si → (i = id ∧ si = s) ∨ (i ≠ id ∧ β i = some si) := by
    intro i si hi
    by_cases e : i = id
    · subst e; rw [Ren.put_same] at hi; cases hi; exact .inl ⟨rfl, rfl⟩
    · rw [Ren.put_other β s e] at hi; exact .inr ⟨e, hi⟩
  refine ⟨hle, ⟨?_, ?_, ?_, ?_⟩, rfl, rfl, rfl, by simp, fun b hb _ => Below.heap_alloc _ _ _ hb, ?_, ?_⟩
  · intro i oi si a b
    rw [hget] at a
    rcases hold b with ⟨rfl, rfl⟩ | ⟨e, b⟩
    · rw [if_pos rfl] at a; cases a; exact ho _ hle (Ren.put_same ..)
    · rw [if_neg e] at a
      exact (h.obj i oi si a b).mono hle (Below.heap_alloc _ _ _ (h.blk i si b))
  · intro i si b
    rcases hold b with ⟨rfl, rfl⟩ | ⟨e, b⟩
    · simp [hs]
    · have := h.blk i si b; simp; omega
  · intro i j oi oj si sj a b c d hij hso
    rw [hget] at a b
    rcases hold c with ⟨rfl, rfl⟩ | ⟨e, c⟩ <;> rcases hold d with ⟨rfl, rfl⟩ | ⟨e2, d⟩
    · exact absurd rfl hij
    · have := h.blk _ _ ‹β j = some sj›; omega
    · have := h.blk _ _ ‹β i = some si›; omega
    · rw [if_neg e] at a; rw [if_neg e2] at b
      exact h.apart i j oi oj si sj a b c d hij hso
  · intro i hi
    have hi : next' ≤ i := hi
    rw [Ren.put_other β s (by omega)]
    exact h.fresh i (by omega)
  · rintro b hb ⟨i, oi, si, a, c, d, e⟩
    rw [hget] at a
    rcases hold c with ⟨rfl, rfl⟩ | ⟨e2, c⟩
    · omega
    · rw [if_neg e2] at a; exact ⟨i, oi, si, a, c, d, e⟩
  · rintro b hb ⟨i, oi, si, a, c, e⟩
    rw [hget] at a
    rcases hold c with ⟨rfl, rfl⟩ | ⟨e2, c⟩
    · omega
    · rw [if_neg e2] at a; exact ⟨i, oi, si, a, c, e⟩

/-- an object is changed where it lies -/
theorem Goes.upd {β : Ren} {H : AHeap} {w : World} (h : Rel β H w) {i : Nat} {o o' : AObj} {s : Spot} (hi : H.get i = some o) (hs : β i = some s) (hown : s.own = true) (w' : World)
    (hos : w'.os = w.os) (htp : w'.tape = w.tape) (hout : w'.output = w.output) (hsz : w'.heap.size = w.heap.size) (hk : ∀ b, b ≠ s.blk → w'.heap[b]? = w.heap[b]?) (ho : ObjOk β w' s o') :
    Goes β H w β (H.upd i (some o')) w' := by
  have hget : ∀ j, (H.upd i (some o')).get j = if j = i then some o' else H.get j := fun j => AHeap.get_upd H i (some o') j
  have hne : ∀ j oj sj, H.get j = some oj → β j = some sj → j ≠ i → sj.blk ≠ s.blk := fun j oj sj a b e => (h.apart i j o oj s sj hi a hs b (Ne.symm e) hown).symm
  refine ⟨β.le_refl, ⟨?_, ?_, ?_, h.fresh⟩, hos, htp, hout, by omega, fun b hb hn => hk b fun e => hn ⟨i, o, s, hi, hs, hown, e.symm⟩, ?_, ?_⟩
  · intro j oj sj a b
    rw [hget] at a
    by_cases e : j = i
    · subst e; rw [if_pos rfl] at a; cases a; rw [hs] at b; cases b; exact ho
    · rw [if_neg e] at a; exact (h.obj j oj sj a b).mono β.le_refl (hk _ (hne j oj sj a b e))
  · intro j sj b; have := h.blk j sj b; omega
  · intro j k oj ok sj sk a b c d hjk hso
    rw [hget] at a b
    have hj : ∃ oj, H.get j = some oj := by by_cases e : j = i <;> simp [e] at a <;> first | exact ⟨o, e ▸ hi⟩ | exact ⟨_, a⟩
    have hk : ∃ ok, H.get k = some ok := by by_cases e : k = i <;> simp [e] at b <;> first | exact ⟨o, e ▸ hi⟩ | exact ⟨_, b⟩
    obtain ⟨oj', hj⟩ := hj; obtain ⟨ok', hk⟩ := hk
    exact h.apart j k oj' ok' sj sk hj hk c d hjk hso
  · rintro b hb ⟨j, oj, sj, a, c, d, e⟩
    rw [hget] at a
    by_cases e2 : j = i
    · subst e2; exact ⟨j, o, sj, hi, c, d, e⟩
    · rw [if_neg e2] at a; exact ⟨j, oj, sj, a, c, d, e⟩
  · rintro b hb ⟨j, oj, sj, a, c, e⟩
    rw [hget] at a
    by_cases e2 : j = i
    · subst e2; exact ⟨j, o, sj, hi, c, e⟩
    · rw [if_neg e2] at a; exact ⟨j, oj, sj, a, c, e⟩

/-- an object is forgotten -/
theorem Goes.kill {β : Ren} {H : AHeap} {w : World} (h : Rel β H w) (i : Nat) : Goes β H w β (H.upd i none) w := by
  have hget : ∀ j o, (H.upd i none).get j = some o → H.get j = some o := fun j o hj => by
    rw [AHeap.get_upd] at hj
    by_cases e : j = i
    · simp [e] at hj
    · rwa [if_neg e] at hj
  exact ⟨β.le_refl, h.less (fun j o _ a _ => hget j o a) h.fresh, rfl, rfl, rfl, Nat.le_refl _, fun _ _ _ => rfl, fun b _ ⟨j, o, s, a, c⟩ => ⟨j, o, s, hget j o a, c⟩, fun b _ ⟨j, o, s, a, c⟩ => ⟨j, o, s, hget j o a, c⟩⟩

/-- one cell is written -/
theorem Goes.store {β : Ren} {H : AHeap} {w : World} (h : Rel β H w) {i j : Nat} {cells : List Value} {elem : TypeId} {esz : Nat} {s : Spot} {v v' : Value} (hi : H.get i = some (.row cells elem esz true)) (hs : β i = some s) (hj : j < cells.length) (hv : VR β v v') :
    Goes β H w β (H.upd i (some (.row (cells.set j v) elem esz true))) (w.setCell ⟨s.blk, s.shift + j, none⟩ v') := by
  obtain ⟨h1, h2, h3⟩ := h.obj _ _ _ hi hs
  obtain ⟨he, c, fz, hc, hz, hf⟩ := h3 rfl
  refine Goes.upd h hi hs h1.symm _ rfl rfl rfl (by simp) (fun b hb => Below.heap_setCell _ _ _ _ hb) ⟨h1, fun k u hk => ?_, fun _ => ⟨he, c.setIfInBounds (s.shift + j) v', fz, ?_, by simpa using hz, hf⟩⟩
  · obtain ⟨u0, hu0, _⟩ := h2 j (cells[j]) (by simp [hj])
    rw [List.getElem?_set] at hk
    by_cases e : j = k
    · subst e
      rw [if_pos rfl, if_pos hj] at hk; cases hk
      exact ⟨v', World.cell?_setCell_same w _ _ hu0, hv⟩
    · rw [if_neg e] at hk
      obtain ⟨u', hu, hr⟩ := h2 k u hk
      refine ⟨u', ?_, hr⟩
      rw [World.cell?_setCell_other w _ _ _ (by intro e2; injection e2 with _ e3 _; omega)]
      exact hu
  · simp only [World.setCell, Array.getElem?_modify, if_true, hc, Option.map_some]; rfl

/-- a map or an iterator is written -/
theorem Goes.setObj {β : Ren} {H : AHeap} {w : World} (h : Rel β H w) {i : Nat} {o o' : AObj} {s : Spot} (hi : H.get i = some o) (hs : β i = some s) (hown : s.own = true) (O : Obj)
    (ho : ∀ w' : World, w'.heap[s.blk]? = some O → ObjOk β w' s o') :
    Goes β H w β (H.upd i (some o')) { w with heap := w.heap.setIfInBounds s.blk O } := by
  have hb := h.blk i s hs
  refine Goes.upd h hi hs hown _ rfl rfl rfl (by simp) (fun b hb => ?_) (ho _ ?_)
  · simp [Array.getElem?_setIfInBounds_ne (Ne.symm hb)]
  · simp [hb]

/-- for the whole call: what was there is as it was -/
theorem Goes.below {β β' : Ren} {H H' : AHeap} {w w' : World} (h : Goes β H w β' H' w') (hno : ∀ i s, β i = some s → s.own = false) : Below w.heap.size w w' :=
  ⟨h.os, h.tape, h.output, h.size, fun b hb => h.keep b hb fun ⟨i, o, s, _, b, c, _⟩ => by rw [hno i s b] at c; cases c⟩

/-- of what a guest call has made nothing is left -/
theorem Goes.forget {β β' : Ren} {H H' : AHeap} {w w' : World} (h : Goes β H w β' H' w') (hr : Rel β H w) (hk : ∀ i o, H.get i = some o → (∃ s, β i = some s) → H'.get i = some o) : Goes β H w β H w' := by
  refine ⟨β.le_refl, ⟨?_, ?_, hr.apart, hr.fresh⟩, h.os, h.tape, h.output, h.size, h.keep, fun _ _ h => h, fun _ _ h => h⟩
  · intro i o s a b
    have h1 := hr.obj i o s a b
    have h2 := h.rel.obj i o s (hk i o a ⟨s, b⟩) (h.le i s b)
    cases o with
    | row cells elem esz own =>
      refine ⟨h1.1, fun j v hj => ?_, h2.2.2⟩
      obtain ⟨v1, _, r1⟩ := h1.2.1 j v hj
      obtain ⟨v2, c2, r2⟩ := h2.2.1 j v hj
      exact ⟨v2, c2, r1.back h.le r2⟩
    | map es clock =>
      obtain ⟨p1, p0, es1, p2, p3, p4⟩ := h1
      obtain ⟨q1, q0, es2, q2, q3, q4⟩ := h2
      refine ⟨p1, q0, es2, q2, q3, fun j e e' he he' => ?_⟩
      have hj := (List.getElem?_eq_some_iff.1 he).1
      obtain ⟨_, _, _, r1⟩ := p4 j e (es1[j]'(by omega)) he (by simp)
      obtain ⟨a1, a2, a3, r2⟩ := q4 j e e' he he'
      exact ⟨a1, a2, a3, r1.back h.le r2⟩
    | iter t pos => exact ⟨h1.1, h1.2.1, h2.2.2⟩
  · intro i s b
    have := h.rel.blk i s (h.le i s b); exact this
end Go.Proofs.YtdfadipfhcikdaaGreatDoor

namespace Go.Proofs.YtdfadipfhcikdaaGreatDoor
open Go.RowKit

/-- what an operation answers that asks nothing of the world -/
def qval (P : Program) {α : Type} : Sem α → Option α
  | .pure a => some a
  | .program k => qval P (k P)
  | .mark _ k => qval P k
  | _ => none
theorem qval_run (P : Program) {α : Type} {s : Sem α} {a : α} (h : qval P s = some a) (w : World) : s.run P w = .ok a w := by
  induction s with
  | pure b => simp only [qval] at h; cases h; rfl
  | program k ih => exact ih P h
  | mark m k ih => exact ih h
  | _ => simp [qval] at h

def Fits (P : Program) (o : Oper) (ρ : Operand → Value) (fid : Nat) (H : AHeap) (v : Value) (H' : AHeap) : Prop :=
  ∀ (β : Ren) (w : World) (ρ' : Operand → Value), Rel β H w → β fid = none → fid < H.next → (∀ x ∈ o.op.operands, VR β (ρ x) (ρ' x)) →
    ∃ β' v' w', (∃ n, (execOp ρ' o).run P w = .ok n w' ∧ (n = .value v' ∨ n = .skip ∧ v' = undef)) ∧ VR β' v v' ∧ Goes β H w β' H' w' ∧ (∀ i, i ≠ fid → β' i = β i) ∧ H'.next = H.next

theorem vr_undef (β : Ren) : VR β undef undef := .tuple rfl (fun j x y hx _ => by simp at hx)

/-! ### operations on values without blocks -/
def notSelect : Op → Bool
  | .select .. => false
  | _ => true
def aPure (P : Program) (ρ : Operand → Value) (o : Oper) : Option Value :=
  cond (notSelect o.op && o.op.operands.toList.all fun x => flat (ρ x)) (match qval P (execOp ρ o) with
    | some (.value v) => cond (flat v) (some v) none
    | _ => none) none
theorem fits_pure {P : Program} {o : Oper} {ρ : Operand → Value} {v : Value} (h : aPure P ρ o = some v) (fid : Nat) (H : AHeap) : Fits P o ρ fid H v H := by
  intro β w ρ' hr _ _ hρ
  unfold aPure at h
  cases hc : (notSelect o.op && o.op.operands.toList.all fun x => flat (ρ x)) with
  | false => rw [hc] at h; cases h
  | true =>
    rw [hc] at h
    simp only [cond] at h
    rw [Bool.and_eq_true] at hc
    have hsel : ∀ cs b, o.op ≠ .select cs b := fun cs b e => by rw [e] at hc; cases hc.1
    have heq : execOp ρ' o = execOp ρ o := execOp_congr o hsel fun x hx => (flat_vr (List.all_eq_true.1 hc.2 x (Array.mem_toList_iff.2 hx)) β).2 _ (hρ x hx)
    cases hq : qval P (execOp ρ o) with
    | none => rw [hq] at h; cases h
    | some n =>
      rw [hq] at h
      cases n with
      | value u =>
        cases hf : flat u with
        | false => simp [hf] at h
        | true =>
          simp [hf] at h; subst h
          exact ⟨β, u, w, ⟨_, by rw [heq]; exact qval_run P hq w, .inl rfl⟩, (flat_vr hf β).1, .refl hr, fun _ _ => rfl, rfl⟩
      | _ => simp at h

/-- an operation that only hands a value on -/
theorem fits_value {P : Program} {o : Oper} {ρ : Operand → Value} {v : Value} (fid : Nat) (H : AHeap)
    (h : ∀ (β : Ren) (w : World) (ρ' : Operand → Value), Rel β H w → (∀ x ∈ o.op.operands, VR β (ρ x) (ρ' x)) → ∃ v', (execOp ρ' o).run P w = .ok (.value v') w ∧ VR β v v') : Fits P o ρ fid H v H := by
  intro β w ρ' hr _ _ hρ
  obtain ⟨v', h1, h2⟩ := h β w ρ' hr hρ
  exact ⟨β, v', w, ⟨_, h1, .inl rfl⟩, h2, .refl hr, fun _ _ => rfl, rfl⟩

theorem fits_move {P : Program} {o : Oper} {ρ : Operand → Value} {x : Operand} (ho : o.op = .move x ∨ o.op = .assign x) (fid : Nat) (H : AHeap) : Fits P o ρ fid H (ρ x) H := by
  refine fits_value fid H fun β w ρ' _ hρ => ⟨ρ' x, ?_, hρ x ?_⟩
  · rcases ho with h | h <;> (simp only [execOp, h]; rfl)
  · rcases ho with h | h <;> simp [h, Op.operands]

theorem fits_pick {P : Program} {o : Oper} {ρ : Operand → Value} {c x y : Operand} {t : Bool} (ho : o.op = .pick c x y) (hc : ρ c = .bool t) (fid : Nat) (H : AHeap) : Fits P o ρ fid H (if t then ρ x else ρ y) H := by
  refine fits_value fid H fun β w ρ' _ hρ => ?_
  have h1 := hρ c (by simp [ho, Op.operands])
  have h2 := hρ x (by simp [ho, Op.operands])
  have h3 := hρ y (by simp [ho, Op.operands])
  rw [hc] at h1
  have e : ρ' c = .bool t := by generalize ρ' c = u at h1; cases h1; rfl
  refine ⟨if t then ρ' x else ρ' y, by simp only [execOp, ho, e]; rfl, by cases t <;> assumption⟩

theorem fits_nilCheck {P : Program} {o : Oper} {ρ : Operand → Value} {x : Operand} {a : Addr} (ho : o.op = .nilCheck x) (hx : ρ x = .pointer (some a)) (fid : Nat) (H : AHeap) : Fits P o ρ fid H (ρ x) H := by
  refine fits_value fid H fun β w ρ' _ hρ => ?_
  have h1 := hρ x (by simp [ho, Op.operands])
  refine ⟨ρ' x, ?_, h1⟩
  rw [hx] at h1
  generalize hu : ρ' x = u at h1
  cases h1
  simp only [execOp, ho, hu]; rfl
theorem fits_nilCheckF {P : Program} {o : Oper} {ρ : Operand → Value} {x : Operand} {f : FuncId} {a c : Array Value} (ho : o.op = .nilCheck x) (hx : ρ x = .func (.func f) a c) (fid : Nat) (H : AHeap) : Fits P o ρ fid H (ρ x) H := by
  refine fits_value fid H fun β w ρ' _ hρ => ?_
  have h1 := hρ x (by simp [ho, Op.operands])
  refine ⟨ρ' x, ?_, h1⟩
  rw [hx] at h1
  generalize hu : ρ' x = u at h1
  cases h1
  simp only [execOp, ho, hu]; rfl

/-! ### pieces -/
theorem add_none (b s n : Nat) : (⟨b, s, none⟩ : Addr).add n = ⟨b, s + n, none⟩ := by unfold Addr.add; split <;> simp_all
theorem cells_vr {β : Ren} {v v' : Value} (h : VR β v v') : v.cells.size = v'.cells.size ∧ ∀ (j : Nat) (x y : Value), v.cells[j]? = some x → v'.cells[j]? = some y → VR β x y := by
  cases h with
  | agg hs h1 => exact ⟨hs, h1⟩
  | _ =>
    refine ⟨rfl, fun j x y hx hy => ?_⟩
    cases j with
    | zero =>
      simp only [Value.cells, List.getElem?_toArray, List.getElem?_cons_zero, Option.some.injEq] at hx hy
      subst hx hy; constructor <;> assumption
    | succ j => simp [Value.cells] at hx
theorem run_underlying' {P : Program} {t : TypeId} {d : TypeDesc} (h : P.underlying t = some d) (w : World) : (underlying t).run P w = .ok d w := by simp [underlying, h]
theorem run_typeInfo' {P : Program} {t : TypeId} {i : TypeInfo} (h : P.info? t = some i) (w : World) : (typeInfo t).run P w = .ok i w := by simp [typeInfo, h]
theorem run_sizeOf' {P : Program} {t : TypeId} {i : TypeInfo} (h : P.info? t = some i) (w : World) : (sizeOf t).run P w = .ok i.size w := by simp [sizeOf, run_typeInfo' h]
theorem run_zeroValue' {P : Program} {t : TypeId} {i : TypeInfo} {z : Value} (h : P.info? t = some i) (hz : i.zero = some z) (w : World) : (zeroValue t).run P w = .ok z w := by simp [zeroValue, run_typeInfo' h, hz]
def aggT : TypeDesc → Bool
  | .struct _ | .array _ _ => true
  | _ => false
theorem run_isAgg' {P : Program} {t : TypeId} {d : TypeDesc} (h : P.underlying t = some d) (w : World) : (isAgg t).run P w = .ok (aggT d) w := by
  cases d <;> simp [isAgg, run_underlying' h, aggT]

/-- part of a value -/
def aPart (P : Program) (t : TypeId) (cs : Array Value) (off : Nat) : Option Value :=
  match P.underlying t, P.info? t with
  | some d, some i => cond (aggT d) (some (.agg (cs.extract off (off + i.size)))) (cs[off]?)
  | _, _ => none
theorem part_vr {P : Program} {β : Ren} {t : TypeId} {cs cs' : Array Value} {off : Nat} {v : Value} (h : aPart P t cs off = some v) (hs : cs.size = cs'.size)
    (hc : ∀ (j : Nat) (x y : Value), cs[j]? = some x → cs'[j]? = some y → VR β x y) (w : World) : ∃ v', (part t cs' off).run P w = .ok v' w ∧ VR β v v' := by
  unfold aPart at h
  cases hd : P.underlying t with
  | none => simp [hd] at h
  | some d =>
    cases hi : P.info? t with
    | none => simp [hd, hi] at h
    | some i =>
      simp only [hd, hi] at h
      cases ha : aggT d with
      | true =>
        simp only [ha, cond, Option.some.injEq] at h
        subst h
        refine ⟨.agg (cs'.extract off (off + i.size)), by simp [part, run_isAgg' hd, ha, run_sizeOf' hi], .agg (by simp [hs]) fun j x y hx hy => ?_⟩
        rw [Array.getElem?_extract] at hx hy
        split at hx
        · split at hy
          · exact hc _ x y hx hy
          · cases hy
        · cases hx
      | false =>
        simp only [ha, cond] at h
        have hl := (Array.getElem?_eq_some_iff.1 h).1
        refine ⟨cs'[off]'(by omega), ?_, hc off v _ h (by simp)⟩
        have e : cs'[off]? = some (cs'[off]'(by omega)) := by simp
        simp [part, run_isAgg' hd, ha, e]

theorem fits_field {P : Program} {o : Oper} {ρ : Operand → Value} {t : TypeId} {x : Operand} {f : Nat} {cs : Array Value} {fs : Array Field} {fd : Field} {v : Value} (ho : o.op = .field t x f) (hx : ρ x = .agg cs) (ht : P.underlying t = some (.struct fs)) (hf : fs[f]? = some fd) (hp : aPart P fd.type cs fd.offset = some v) (fid : Nat) (H : AHeap) : Fits P o ρ fid H v H := by
  refine fits_value fid H fun β w ρ' _ hρ => ?_
  have h1 := hρ x (by simp [ho, Op.operands])
  rw [hx] at h1
  generalize hu : ρ' x = u at h1
  cases h1 with
  | @agg _ cs' hs hc =>
    obtain ⟨v', h2, h3⟩ := part_vr hp hs hc w
    refine ⟨v', ?_, h3⟩
    simp [execOp, ho, hu, Instr.field, run_underlying' ht, hf, asAgg, h2]

theorem fits_extract {P : Program} {o : Oper} {ρ : Operand → Value} {x : Operand} {k : Nat} {vs : Array Value} {v : Value} (ho : o.op = .extract x k) (hx : ρ x = .tuple vs) (hv : vs[k]? = some v) (fid : Nat) (H : AHeap) : Fits P o ρ fid H v H := by
  refine fits_value fid H fun β w ρ' _ hρ => ?_
  have h1 := hρ x (by simp [ho, Op.operands])
  rw [hx] at h1
  generalize hu : ρ' x = u at h1
  cases h1 with
  | @tuple _ vs' hs hc =>
    have hl := (Array.getElem?_eq_some_iff.1 hv).1
    have e : vs'[k]? = some (vs'[k]'(by omega)) := by simp
    exact ⟨vs'[k]'(by omega), by simp [execOp, ho, hu, Instr.extract, e], hc k v _ hv e⟩

theorem fits_indexArr {P : Program} {o : Oper} {ρ : Operand → Value} {t el : TypeId} {x ix : Operand} {n i : Nat} {k : IntKind} {cs : Array Value} {inf : TypeInfo} {v : Value} (ho : o.op = .index t x ix) (hx : ρ x = .agg cs) (hix : ρ ix = .int k (Int.ofNat i)) (ht : P.underlying t = some (.array n el)) (hin : Nat.blt i n = true) (hi : P.info? el = some inf) (hp : aPart P el cs (i * inf.size) = some v) (fid : Nat) (H : AHeap) : Fits P o ρ fid H v H := by
  refine fits_value fid H fun β w ρ' _ hρ => ?_
  have h1 := hρ x (by simp [ho, Op.operands])
  have h2 := hρ ix (by simp [ho, Op.operands])
  rw [hx] at h1; rw [hix] at h2
  have e2 : ρ' ix = .int k (Int.ofNat i) := by generalize ρ' ix = u at h2; cases h2; rfl
  generalize hu : ρ' x = u at h1
  cases h1 with
  | @agg _ cs' hs hc =>
    obtain ⟨v', h3, h4⟩ := part_vr hp hs hc w
    have hin' : i < n := by simpa [Nat.blt_eq] using hin
    refine ⟨v', ?_, h4⟩
    simp [execOp, ho, hu, e2, Instr.index, asIntOf, run_underlying' ht, hin', run_sizeOf' hi, h3]

theorem fits_makeFunc {P : Program} {o : Oper} {ρ : Operand → Value} {fn : Fn} {a c : Array Operand} (ho : o.op = .makeFunc fn a c) (fid : Nat) (H : AHeap) : Fits P o ρ fid H (.func fn (a.map ρ) (c.map ρ)) H := by
  refine fits_value fid H fun β w ρ' _ hρ => ⟨.func fn (a.map ρ') (c.map ρ'), by simp [execOp, ho, Instr.makeFunc], .func (by simp) (by simp) (fun j x y hx hy => ?_) (fun j x y hx hy => ?_)⟩
  all_goals
    rw [Array.getElem?_map] at hx hy
    obtain ⟨u, hu, rfl⟩ := Option.map_eq_some_iff.1 hx
    rw [hu] at hy; cases hy
    exact hρ u (by simp only [ho, Op.operands]; have := Array.mem_of_getElem? hu; simp [this])

theorem fits_makeIface {P : Program} {o : Oper} {ρ : Operand → Value} {t : TypeId} {x : Operand} {d : TypeDesc} (ho : o.op = .makeInterface t x) (hd : P.underlying t = some d) (hn : (match d with | .interface _ => false | _ => true) = true) (fid : Nat) (H : AHeap) : Fits P o ρ fid H (.iface t (ρ x)) H := by
  refine fits_value fid H fun β w ρ' _ hρ => ⟨.iface t (ρ' x), ?_, .iface (hρ x (by simp [ho, Op.operands]))⟩
  cases d <;> simp [execOp, ho, Instr.makeInterface, run_underlying' hd] at hn ⊢

theorem fits_fieldAddr {P : Program} {o : Oper} {ρ : Operand → Value} {t : TypeId} {x : Operand} {f : Nat} {i p : Nat} {fs : Array Field} {fd : Field} {inf : TypeInfo} (ho : o.op = .fieldAddr t x f) (hx : ρ x = .pointer (some ⟨i, p, none⟩)) (ht : P.underlying t = some (.struct fs)) (hf : fs[f]? = some fd) (hi : P.info? fd.type = some inf) (hz : Nat.beq inf.size 0 = false) (fid : Nat) (H : AHeap) : Fits P o ρ fid H (.pointer (some ⟨i, p + fd.offset, none⟩)) H := by
  refine fits_value fid H fun β w ρ' _ hρ => ?_
  have h1 := hρ x (by simp [ho, Op.operands])
  rw [hx] at h1
  generalize hu : ρ' x = u at h1
  cases h1 with
  | @ptr _ _ s hs =>
    have hz' : inf.size ≠ 0 := fun e => by rw [e] at hz; cases hz
    refine ⟨.pointer (some ⟨s.blk, s.shift + (p + fd.offset), none⟩), ?_, .ptr hs⟩
    simp [execOp, ho, hu, Instr.fieldAt, run_underlying' ht, hf, Instr.sureAddr, fieldPlace, run_sizeOf' hi, hz', add_none, Nat.add_assoc]

theorem fits_indexAddr {P : Program} {o : Oper} {ρ : Operand → Value} {t el : TypeId} {x ix : Operand} {i p n c j : Nat} {k : IntKind} {inf : TypeInfo} (ho : o.op = .indexAddr t x ix) (hx : ρ x = .slice (some ⟨i, p, none⟩) n c) (hix : ρ ix = .int k (Int.ofNat j)) (ht : P.underlying t = some (.slice el)) (hi : P.info? el = some inf) (hj : Nat.blt j n = true) (fid : Nat) (H : AHeap) : Fits P o ρ fid H (.pointer (some ⟨i, p + j * inf.size, none⟩)) H := by
  refine fits_value fid H fun β w ρ' _ hρ => ?_
  have h1 := hρ x (by simp [ho, Op.operands])
  have h2 := hρ ix (by simp [ho, Op.operands])
  rw [hx] at h1; rw [hix] at h2
  have e2 : ρ' ix = .int k (Int.ofNat j) := by generalize ρ' ix = u at h2; cases h2; rfl
  have hj' : j < n := by simpa [Nat.blt_eq] using hj
  generalize hu : ρ' x = u at h1
  cases h1 with
  | @slice _ _ _ _ c' s hs hn hm hc =>
    refine ⟨.pointer (some ⟨s.blk, s.shift + (p + j * inf.size), none⟩), ?_, .ptr hs⟩
    simp [execOp, ho, hu, e2, Instr.indexAt, asIntOf, run_underlying' ht, hj', run_sizeOf' hi, add_none, Nat.add_assoc]
  | sliceE => omega
theorem fits_indexAddrArr {P : Program} {o : Oper} {ρ : Operand → Value} {t el : TypeId} {x ix : Operand} {i p n j : Nat} {k : IntKind} {inf : TypeInfo} (ho : o.op = .indexAddr t x ix) (hx : ρ x = .pointer (some ⟨i, p, none⟩)) (hix : ρ ix = .int k (Int.ofNat j)) (ht : P.underlying t = some (.array n el)) (hi : P.info? el = some inf) (hj : Nat.blt j n = true) (fid : Nat) (H : AHeap) : Fits P o ρ fid H (.pointer (some ⟨i, p + j * inf.size, none⟩)) H := by
  refine fits_value fid H fun β w ρ' _ hρ => ?_
  have h1 := hρ x (by simp [ho, Op.operands])
  have h2 := hρ ix (by simp [ho, Op.operands])
  rw [hx] at h1; rw [hix] at h2
  have e2 : ρ' ix = .int k (Int.ofNat j) := by generalize ρ' ix = u at h2; cases h2; rfl
  have hj' : j < n := by simpa [Nat.blt_eq] using hj
  generalize hu : ρ' x = u at h1
  cases h1 with
  | @ptr _ _ s hs =>
    refine ⟨.pointer (some ⟨s.blk, s.shift + (p + j * inf.size), none⟩), ?_, .ptr hs⟩
    simp [execOp, ho, hu, e2, Instr.indexAt, Instr.sureAddr, asIntOf, run_underlying' ht, hj', run_sizeOf' hi, add_none, Nat.add_assoc]
end Go.Proofs.YtdfadipfhcikdaaGreatDoor

namespace Go.Proofs.YtdfadipfhcikdaaGreatDoor
open Go.RowKit

/-- the model's cells for an abstract row's piece -/
theorem piece_vr {β : Ren} {w : World} {b s0 : Nat} : ∀ (cs : List Value) (o : Nat), (∀ j v, cs[j]? = some v → ∃ v', w.cell? ⟨b, s0 + (o + j), none⟩ = some v' ∧ VR β v v') →
    ∃ cs' : List Value, cs'.length = cs.length ∧ (∀ j v', cs'[j]? = some v' → w.cell? ⟨b, s0 + (o + j), none⟩ = some v') ∧ ∀ (j : Nat) (x y : Value), cs[j]? = some x → cs'[j]? = some y → VR β x y
  | [], _, _ => ⟨[], rfl, fun j v h => by simp at h, fun j x y h => by simp at h⟩
  | c :: cs, o, h => by
    obtain ⟨c', hc, hr⟩ := h 0 c rfl
    obtain ⟨cs', h1, h2, h3⟩ := piece_vr cs (o + 1) fun j v hj => by
      have := h (j + 1) v hj
      rwa [show o + (j + 1) = o + 1 + j from by omega] at this
    refine ⟨c' :: cs', by simp [h1], fun j v' hj => ?_, fun j x y hx hy => ?_⟩
    · cases j with
      | zero => simp at hj; subst hj; exact hc
      | succ j => have := h2 j v' hj; rwa [show o + 1 + j = o + (j + 1) from by omega] at this
    · cases j with
      | zero => simp at hx hy; subst hx hy; exact hr
      | succ j => exact h3 j x y hx hy

/-- n cells of a row from a place on -/
def cut (cells : List Value) (o n : Nat) : Option (List Value) :=
  let l := (cells.drop o).take n
  cond (Nat.beq l.length n) (some l) none
theorem cut_some {cells l : List Value} {o n : Nat} (h : cut cells o n = some l) : l.length = n ∧ ∀ j v, l[j]? = some v → cells[o + j]? = some v := by
  unfold cut at h
  cases hb : Nat.beq ((cells.drop o).take n).length n with
  | false => simp only [hb, cond] at h; cases h
  | true =>
    simp only [hb, cond, Option.some.injEq] at h
    have hb' := Nat.eq_of_beq_eq_true hb
    subst h
    refine ⟨hb', fun j v hj => ?_⟩
    have hjn : j < n := by have := (List.getElem?_eq_some_iff.1 hj).1; omega
    rw [List.getElem?_take_of_lt hjn, List.getElem?_drop] at hj
    exact hj

theorem rel_piece {β : Ren} {H : AHeap} {w : World} (hr : Rel β H w) {i o n : Nat} {s : Spot} {cells l : List Value} {elem : TypeId} {esz : Nat} {own : Bool} (hi : H.get i = some (.row cells elem esz own)) (hs : β i = some s) (hl : cut cells o n = some l) :
    ∃ l' : List Value, l'.length = n ∧ l.length = n ∧ (∀ j v', l'[j]? = some v' → w.cell? ((⟨s.blk, s.shift + o, none⟩ : Addr).add j) = some v') ∧ ∀ (j : Nat) (x y : Value), l[j]? = some x → l'[j]? = some y → VR β x y := by
  obtain ⟨_, h2, _⟩ := hr.obj _ _ _ hi hs
  obtain ⟨hn, hc⟩ := cut_some hl
  obtain ⟨l', h3, h4, h5⟩ := piece_vr (β := β) (w := w) (b := s.blk) (s0 := s.shift) l o fun j v hj => h2 (o + j) v (hc j v hj)
  exact ⟨l', by omega, hn, fun j v' hj => by rw [add_none, Nat.add_assoc]; exact h4 j v' hj, h5⟩

/-! ### load -/
def aLoad (P : Program) (t : TypeId) (x : Value) (H : AHeap) : Option Value :=
  match x with
  | .pointer (some ⟨i, o, none⟩) => match H.get i with
    | some (.row cells _ _ _) => match P.underlying t with
      | some d => cond (aggT d) (match P.info? t with
        | some inf => (cut cells o inf.size).map fun l => .agg l.toArray
        | none => none) (cells[o]?)
      | none => none
    | _ => none
  | _ => none
theorem load_value {P : Program} {o : Oper} {ρ ρ' : Operand → Value} {t : TypeId} {x : Operand} {v : Value} {β : Ren} {w : World} (ho : o.op = .load t x) {H : AHeap} (h : aLoad P t (ρ x) H = some v) (hr : Rel β H w) (h1 : VR β (ρ x) (ρ' x)) : ∃ v', (execOp ρ' o).run P w = .ok (.value v') w ∧ VR β v v' := by
  unfold aLoad at h
  split at h
  · rename_i i p hx
    rw [hx] at h1
    generalize hu : ρ' x = u at h1
    cases h1 with
    | @ptr _ _ s hs =>
      split at h
      · rename_i cells elem esz own hi
        split at h
        · rename_i d hd
          cases ha : aggT d with
          | true =>
            rw [ha] at h
            simp only [cond] at h
            split at h
            · rename_i inf hinf
              cases hc : cut cells p inf.size with
              | none => rw [hc] at h; cases h
              | some l =>
                rw [hc] at h; simp at h; subst h
                obtain ⟨l', h2, h2', h3, h4⟩ := rel_piece hr hi hs hc
                refine ⟨.agg l'.toArray, ?_, .agg (by simp [h2, h2']) (by simpa using h4)⟩
                have := run_loadCells_list (P := P) w ⟨s.blk, s.shift + p, none⟩ l' h3
                rw [h2] at this
                simp [execOp, ho, hu, Instr.loadAt, Instr.sureAddr, loadVar, run_isAgg' hd, ha, run_sizeOf' hinf, this]
            · cases h
          | false =>
            rw [ha] at h
            simp only [cond] at h
            obtain ⟨_, h2, _⟩ := hr.obj _ _ _ hi hs
            obtain ⟨v', hv, hvr⟩ := h2 p v h
            exact ⟨v', by simp [execOp, ho, hu, Instr.loadAt, Instr.sureAddr, loadVar, run_isAgg' hd, ha, hv], hvr⟩
        · cases h
      · cases h
  · cases h

theorem fits_load {P : Program} {o : Oper} {ρ : Operand → Value} {t : TypeId} {x : Operand} {v : Value} (ho : o.op = .load t x) (fid : Nat) (H : AHeap) (h : aLoad P t (ρ x) H = some v) : Fits P o ρ fid H v H :=
  fits_value fid H fun _ _ _ hr hρ => load_value ho h hr (hρ x (by simp [ho, Op.operands]))

/-! ### store -/
def oneV : Value → Bool
  | .agg _ | .tuple _ => false
  | _ => true
theorem oneV_vr {β : Ren} {v v' : Value} (h : VR β v v') (hv : oneV v = true) : v'.oneCell' = true := by
  cases h <;> first | rfl | cases hv
def aStoreCells (i : Nat) (elem : TypeId) (esz : Nat) : AHeap → List Value → Nat → List Value → Option AHeap
  | H, _, _, [] => some H
  | H, cells, o, v :: vs => cond (Nat.blt o cells.length && oneV v) (aStoreCells i elem esz (H.upd i (some (.row (cells.set o v) elem esz true))) (cells.set o v) (o + 1) vs) none
theorem storeCells_goes {P : Program} {β : Ren} {i : Nat} {elem : TypeId} {esz : Nat} {s : Spot} (hs : β i = some s) {p : Nat} :
    ∀ (vs vs' : List Value) (H H' : AHeap) (w : World) (cells : List Value) (o k : Nat), Rel β H w → H.get i = some (.row cells elem esz true) → o = p + k → vs.length = vs'.length → (∀ (j : Nat) (x y : Value), vs[j]? = some x → vs'[j]? = some y → VR β x y) →
      aStoreCells i elem esz H cells o vs = some H' → ∃ w', (storeCells ⟨s.blk, s.shift + p, none⟩ vs' k).run P w = .ok () w' ∧ Goes β H w β H' w' ∧ H'.next = H.next ∧ ∃ cells', cells'.length = cells.length ∧ H'.get i = some (.row cells' elem esz true)
  | [], vs', H, H', w, cells, o, k, hr, hi, _, hl, _, h => by
    simp only [aStoreCells] at h; cases h
    cases vs' with
    | nil => exact ⟨w, by simp [storeCells], .refl hr, rfl, cells, rfl, hi⟩
    | cons => simp at hl
  | v :: vs, vs', H, H', w, cells, o, k, hr, hi, hok, hl, hvr, h => by
    cases vs' with
    | nil => simp at hl
    | cons v' vs' =>
      simp only [aStoreCells] at h
      cases hc : (Nat.blt o cells.length && oneV v) with
      | false => rw [hc] at h; cases h
      | true =>
        rw [hc] at h
        simp only [cond] at h
        rw [Bool.and_eq_true, Nat.blt_eq] at hc
        have hv := hvr 0 v v' rfl rfl
        obtain ⟨h1, h2, h3⟩ := hr.obj _ _ _ hi hs
        obtain ⟨u, hu, _⟩ := h2 o (cells[o]'hc.1) (by simp [hc.1])
        obtain ⟨_, c, fz, hc1, hc2, hc3⟩ := h3 rfl
        have hlt : s.shift + o < s.tot := by
          have : c[s.shift + o]? = some u := by rw [World.cell?, hc1] at hu; simpa using hu
          have := (Array.getElem?_eq_some_iff.1 this).1; omega
        have hfz : w.frozen? ⟨s.blk, s.shift + o, none⟩ = false := by
          simp only [World.frozen?, hc1]; exact hc3 _ (.inl hlt)
        have g1 := Goes.store hr hi hs hc.1 hv
        have hget : (H.upd i (some (.row (cells.set o v) elem esz true))).get i = some (.row (cells.set o v) elem esz true) := by rw [AHeap.get_upd, if_pos rfl]
        obtain ⟨w', h4, h5, h6, cells', h7, h8⟩ := storeCells_goes hs (P := P) (p := p) vs vs' _ H' _ (cells.set o v) (o + 1) (k + 1) g1.rel hget (by omega) (by simpa using hl) (fun j x y hx hy => hvr (j + 1) x y hx hy) h
        refine ⟨w', ?_, g1.trans h5, h6, cells', by simpa using h7, h8⟩
        have e : (⟨s.blk, s.shift + p, none⟩ : Addr).add k = ⟨s.blk, s.shift + o, none⟩ := by rw [add_none, hok, Nat.add_assoc]
        simp only [storeCells, Sem.run_bind, run_store _ _ _ _ _ (oneV_vr hv hc.2), e, hu, hfz, Result.andThen]
        exact h4
def aStore (P : Program) (t : TypeId) (x v : Value) (H : AHeap) : Option AHeap :=
  match x with
  | .pointer (some ⟨i, o, none⟩) => match H.get i, P.info? t with
    | some (.row cells elem esz true), some inf => cond (Nat.beq v.cells.size inf.size) (aStoreCells i elem esz H cells o v.cells.toList) none
    | _, _ => none
  | _ => none
theorem fits_store {P : Program} {o : Oper} {ρ : Operand → Value} {t : TypeId} {x y : Operand} {H' : AHeap} (ho : o.op = .store t x y) (fid : Nat) (H : AHeap) (h : aStore P t (ρ x) (ρ y) H = some H') : Fits P o ρ fid H undef H' := by
  intro β w ρ' hr _ _ hρ
  have h1 := hρ x (by simp [ho, Op.operands])
  have h2 := hρ y (by simp [ho, Op.operands])
  unfold aStore at h
  split at h
  · rename_i i p hx
    rw [hx] at h1
    generalize hu : ρ' x = u at h1
    cases h1 with
    | @ptr _ _ s hs =>
      split at h
      · rename_i cells elem esz inf hi hinf
        obtain ⟨hsz, hcv⟩ := cells_vr h2
        cases hb : Nat.beq (ρ y).cells.size inf.size with
        | false => simp [hb] at h
        | true =>
          simp only [hb, cond] at h
          have hb' := Nat.eq_of_beq_eq_true hb
          obtain ⟨w', h3, h4, h5, _⟩ := storeCells_goes (P := P) hs (p := p) (ρ y).cells.toList (ρ' y).cells.toList H H' w cells p 0 hr hi rfl (by simpa using hsz) (by simpa using hcv) h
          refine ⟨β, undef, w', ⟨.skip, ?_, .inr ⟨rfl, rfl⟩⟩, vr_undef β, h4, fun _ _ => rfl, h5⟩
          simp [execOp, ho, hu, Instr.storeAt, Instr.sureAddr, storeVar, run_sizeOf' hinf, ← hb', hsz, h3]
      · cases h
  · cases h

/-! ### new blocks -/
/-- a new row of the call's own -/
def newRowA (fid : Nat) (cells : List Value) (elem : TypeId) (esz : Nat) (H : AHeap) : AHeap := H.add fid (.row cells elem esz true)
theorem goes_newRow {β : Ren} {H : AHeap} {w : World} (hr : Rel β H w) {fid : Nat} (hf : β fid = none) (hn : fid < H.next) {cells cells' : List Value} (more : List Value) (elem : TypeId) (esz : Nat) (hl : cells.length = cells'.length)
    (hc : ∀ (j : Nat) (x y : Value), cells[j]? = some x → cells'[j]? = some y → VR β x y) :
    Goes β H w (β.put fid ⟨w.heap.size, 0, esz, (cells' ++ more).length, true⟩) (newRowA fid cells elem esz H) (w.alloc (.cells (cells' ++ more).toArray elem)) := by
  refine Goes.alloc hr fid hf (.cells (cells' ++ more).toArray elem) (.row cells elem esz true) ⟨w.heap.size, 0, esz, (cells' ++ more).length, true⟩ rfl rfl ?_ H.next hn (Nat.le_refl _)
  intro β' hle _
  refine ⟨rfl, fun j v hj => ?_, fun _ => ⟨rfl, (cells' ++ more).toArray, (0, 0), heap_alloc_new w _, by simp, fun j _ => by simp⟩⟩
  have hjl : j < cells'.length := by have := (List.getElem?_eq_some_iff.1 hj).1; omega
  refine ⟨cells'[j], ?_, (hc j v _ hj (by simp [hjl])).mono hle⟩
  have e := cell_of_row (w.alloc (.cells (cells' ++ more).toArray elem)) w.heap.size j (cells' ++ more).toArray elem (0, 0) (heap_alloc_new w _)
  simp only [Nat.zero_add]
  rw [e]
  simp [hjl, List.getElem?_append_left]
theorem put_other {β : Ren} {fid : Nat} {s : Spot} : ∀ i, i ≠ fid → (β.put fid s) i = β i := fun _ h => Ren.put_other β s h

theorem fits_alloc {P : Program} {o : Oper} {ρ : Operand → Value} {t : TypeId} {inf : TypeInfo} {z : Value} (ho : o.op = .alloc t) (hi : P.info? t = some inf) (hz : inf.zero = some z) (hfl : flat2 z = true) (fid : Nat) (H : AHeap) :
    Fits P o ρ fid H (.pointer (some ⟨fid, 0, none⟩)) (newRowA fid z.cells.toList t 0 H) := by
  intro β w ρ' hr hf hn _
  have g := goes_newRow hr hf hn (cells := z.cells.toList) (cells' := z.cells.toList) [] t 0 rfl (fun j x y hx hy => (cells_vr (flat2_vr hfl β).1).2 j x y (by simpa using hx) (by simpa using hy))
  refine ⟨_, .pointer (some ⟨w.heap.size, 0, none⟩), _, ⟨.value (.pointer (some ⟨w.heap.size, 0, none⟩)), ?_, .inl rfl⟩, .ptr (s := ⟨w.heap.size, 0, 0, (z.cells.toList ++ []).length, true⟩) (Ren.put_same ..), g, put_other, rfl⟩
  simp [execOp, ho, Instr.alloc, run_zeroValue' hi hz, newVar, newRow]
theorem fits_box {P : Program} {o : Oper} {ρ : Operand → Value} {t : TypeId} {x : Operand} (ho : o.op = .box t x) (fid : Nat) (H : AHeap) :
    Fits P o ρ fid H (.pointer (some ⟨fid, 0, none⟩)) (newRowA fid (ρ x).cells.toList t 0 H) := by
  intro β w ρ' hr hf hn hρ
  obtain ⟨hs, hc⟩ := cells_vr (hρ x (by simp [ho, Op.operands]))
  have g := goes_newRow hr hf hn (cells := (ρ x).cells.toList) (cells' := (ρ' x).cells.toList) [] t 0 (by simpa using hs) (by simpa using hc)
  refine ⟨_, .pointer (some ⟨w.heap.size, 0, none⟩), _, ⟨.value (.pointer (some ⟨w.heap.size, 0, none⟩)), ?_, .inl rfl⟩, .ptr (s := ⟨w.heap.size, 0, 0, ((ρ' x).cells.toList ++ []).length, true⟩) (Ren.put_same ..), g, put_other, rfl⟩
  simp [execOp, ho, Instr.box, newVar, newRow]

/-! ### struct, array and slice values of parts -/
def PartsVR (β : Ren) (a b : List (Nat × Value)) : Prop := a.length = b.length ∧ ∀ (j : Nat) (x y : Nat × Value), a[j]? = some x → b[j]? = some y → x.1 = y.1 ∧ VR β x.2 y.2
def ArrVR (β : Ren) (a b : Array Value) : Prop := a.size = b.size ∧ ∀ (j : Nat) (x y : Value), a[j]? = some x → b[j]? = some y → VR β x y
theorem ArrVR.set {β : Ren} {a b : Array Value} (h : ArrVR β a b) (k : Nat) {x y : Value} (hx : VR β x y) : ArrVR β (a.setIfInBounds k x) (b.setIfInBounds k y) := by
  refine ⟨by simp [h.1], fun j u v hu hv => ?_⟩
  rw [Array.getElem?_setIfInBounds] at hu hv
  by_cases e : k = j
  · subst e
    rw [if_pos rfl] at hu hv
    split at hu
    · split at hv
      · cases hu; cases hv; exact hx
      · cases hv
    · cases hu
  · rw [if_neg e] at hu hv; exact h.2 j u v hu hv
theorem fold_vr {β : Ren} (off : Nat) : ∀ (c c' : List Value) (k : Nat) (a b : Array Value), ArrVR β a b → c.length = c'.length → (∀ (j : Nat) (x y : Value), c[j]? = some x → c'[j]? = some y → VR β x y) →
    ArrVR β ((c.zipIdx k).foldl (fun cs (p : Value × Nat) => cs.setIfInBounds (off + p.2) p.1) a) ((c'.zipIdx k).foldl (fun cs (p : Value × Nat) => cs.setIfInBounds (off + p.2) p.1) b)
  | [], c', k, a, b, h, hl, _ => by
    cases c' with
    | nil => exact h
    | cons => simp at hl
  | x :: c, c', k, a, b, h, hl, hc => by
    cases c' with
    | nil => simp at hl
    | cons y c' =>
      simp only [List.zipIdx_cons, List.foldl_cons]
      exact fold_vr off c c' (k + 1) _ _ (h.set _ (hc 0 x y rfl rfl)) (by simpa using hl) (fun j x y hx hy => hc (j + 1) x y hx hy)
theorem fill_vr {β : Ren} (place : Nat → Option (Nat × Nat)) : ∀ (ps ps' : List (Nat × Value)) (a b r : Array Value), PartsVR β ps ps' → ArrVR β a b → Instr.fill place a ps = some r → ∃ r', Instr.fill place b ps' = some r' ∧ ArrVR β r r'
  | [], ps', a, b, r, hp, h, hr => by
    cases ps' with
    | nil => simp only [Instr.fill] at hr ⊢; cases hr; exact ⟨b, rfl, h⟩
    | cons => have := hp.1; simp at this
  | (i, v) :: ps, ps', a, b, r, hp, h, hr => by
    cases ps' with
    | nil => have := hp.1; simp at this
    | cons q ps' =>
      obtain ⟨i', v'⟩ := q
      obtain ⟨hi, hv⟩ := hp.2 0 (i, v) (i', v') rfl rfl
      simp only at hi hv
      subst hi
      obtain ⟨hs, hc⟩ := cells_vr hv
      simp only [Instr.fill] at hr ⊢
      split at hr
      · cases hr
      · rename_i off size hpl
        rw [← hs, ← h.1]
        split at hr
        · cases hr
        · rename_i hcond
          rw [if_neg hcond]
          refine fill_vr place ps ps' _ _ r ⟨by have := hp.1; simpa using this, fun j x y hx hy => hp.2 (j + 1) x y hx hy⟩ ?_ hr
          have := fold_vr off v.cells.toList v'.cells.toList 0 a b h (by simpa using hs) (by simpa using hc)
          rw [← Array.foldl_toList, ← Array.foldl_toList]
          simpa using this
theorem parts_vr {β : Ren} {ρ ρ' : Operand → Value} (ps : Array (Nat × Operand)) (h : ∀ p ∈ ps.toList, VR β (ρ p.2) (ρ' p.2)) : PartsVR β (ps.map fun (i, x) => (i, ρ x)).toList (ps.map fun (i, x) => (i, ρ' x)).toList := by
  refine ⟨by simp, fun j x y hx hy => ?_⟩
  simp only [Array.toList_map, List.getElem?_map] at hx hy
  obtain ⟨p, hp, rfl⟩ := Option.map_eq_some_iff.1 hx
  rw [hp] at hy; cases hy
  exact ⟨rfl, h p (List.mem_of_getElem? hp)⟩
theorem flat_arr {β : Ren} {z : Value} (h : flat2 z = true) : ArrVR β z.cells z.cells := cells_vr (flat2_vr h β).1

def placesOf (P : Program) (fields : Array Field) : Option (List (Nat × Nat)) := fields.toList.mapM fun f => (P.info? f.type).map fun i => (f.offset, i.size)
theorem run_places {P : Program} : ∀ (fs : List Field) (l : List (Nat × Nat)), (fs.mapM fun f => (P.info? f.type).map fun i => (f.offset, i.size)) = some l → ∀ w, (fs.mapM (m := Sem) fun f => do pure (f.offset, ← sizeOf f.type)).run P w = .ok l w
  | [], l, h, w => by simp at h; subst h; simp
  | f :: fs, l, h, w => by
    simp only [List.mapM_cons, Option.bind_eq_bind, Option.bind_eq_some_iff] at h
    obtain ⟨a, ha, b, hb, h⟩ := h
    simp only [Option.pure_def, Option.some.injEq] at h
    subst h
    obtain ⟨i, hi, rfl⟩ := Option.map_eq_some_iff.1 ha
    have ih := run_places fs b hb w
    simp only [List.mapM_cons, Sem.run_bind, run_sizeOf' hi, Result.andThen_ok, Sem.run_pure]
    rw [ih]
    rfl

def aBuild (P : Program) (ρ : Operand → Value) (t : TypeId) (parts : Array (Nat × Operand)) : Option Value :=
  match P.info? t, P.underlying t with
  | some inf, some (.struct fields) => match inf.zero, placesOf P fields with
    | some z, some pl => cond (flat2 z) ((Instr.fill (pl.toArray[·]?) z.cells (parts.map fun (i, x) => (i, ρ x)).toList).map .agg) none
    | _, _ => none
  | some inf, some (.array _ el) => match inf.zero, P.info? el with
    | some z, some ie => cond (flat2 z) ((Instr.fill (fun i => some (i * ie.size, ie.size)) z.cells (parts.map fun (i, x) => (i, ρ x)).toList).map .agg) none
    | _, _ => none
  | _, _ => none
theorem fits_build {P : Program} {o : Oper} {ρ : Operand → Value} {t : TypeId} {ps : Array (Nat × Operand)} {v : Value} (ho : o.op = .build t ps) (h : aBuild P ρ t ps = some v) (fid : Nat) (H : AHeap) : Fits P o ρ fid H v H := by
  refine fits_value fid H fun β w ρ' hr hρ => ?_
  have hp := parts_vr (β := β) (ρ := ρ) (ρ' := ρ') ps fun p hp => hρ p.2 (by simp only [ho, Op.operands]; simp only [List.mem_toArray, List.mem_map]; exact ⟨p, hp, rfl⟩)
  unfold aBuild at h
  split at h
  · rename_i inf fields hinf hd
    split at h
    · rename_i z pl hz hpl
      cases hfz : flat2 z with
      | false => simp [hfz] at h
      | true =>
        simp only [hfz, cond] at h
        obtain ⟨r, hr1, rfl⟩ := Option.map_eq_some_iff.1 h
        obtain ⟨r', h2, h3⟩ := fill_vr _ _ _ _ _ r hp (flat_arr (β := β) hfz) hr1
        refine ⟨.agg r', ?_, .agg h3.1 h3.2⟩
        have hm := run_places (P := P) fields.toList pl hpl w
        simp only [execOp, ho, Instr.build, Sem.run_bind, run_zeroValue' hinf hz, Result.andThen_ok, run_underlying' hd]
        rw [show (fields.mapM (m := Sem) fun f => do pure (f.offset, ← sizeOf f.type)) = Functor.map List.toArray (fields.toList.mapM fun f => do pure (f.offset, ← sizeOf f.type)) from by rw [Array.mapM_eq_mapM_toList]]
        simp only [Sem.run_map, hm, Result.andThen_ok, Sem.run_pure]
        simp only [h2]
        rfl
    · cases h
  · rename_i inf n el hinf hd
    split at h
    · rename_i z ie hz hie
      cases hfz : flat2 z with
      | false => simp [hfz] at h
      | true =>
        simp only [hfz, cond] at h
        obtain ⟨r, hr1, rfl⟩ := Option.map_eq_some_iff.1 h
        obtain ⟨r', h2, h3⟩ := fill_vr _ _ _ _ _ r hp (flat_arr (β := β) hfz) hr1
        refine ⟨.agg r', ?_, .agg h3.1 h3.2⟩
        simp only [execOp, ho, Instr.build, Sem.run_bind, run_zeroValue' hinf hz, Result.andThen_ok, run_underlying' hd, run_sizeOf' hie]
        simp only [h2]
        rfl
    · cases h
  · cases h
end Go.Proofs.YtdfadipfhcikdaaGreatDoor

namespace Go.Proofs.YtdfadipfhcikdaaGreatDoor
open Go.RowKit

/-! ### a row that may lie where another lay -/
theorem Goes.move {β : Ren} {H : AHeap} {w : World} (h : Rel β H w) {i : Nat} {o o' : AObj} {s s' : Spot} (hi : H.get i = some o) (hs : β i = some s) (hown : s.own = true) {fid : Nat} (hf : β fid = none) (hn : fid < H.next) (w' : World)
    (hos : w'.os = w.os) (htp : w'.tape = w.tape) (hout : w'.output = w.output) (hsz : w'.heap.size = w.heap.size) (hk : ∀ b, b ≠ s.blk → w'.heap[b]? = w.heap[b]?) (hb : s'.blk = s.blk) (hso : s'.own = true) (ho : ObjOk (β.put fid s') w' s' o') :
    Goes β H w (β.put fid s') ((H.upd i none).add fid o') w' := by
  have hle : β.le (β.put fid s') := β.le_put fid s' hf
  have hif : i ≠ fid := fun e => by rw [e, hf] at hs; cases hs
  have hget : ∀ j, ((H.upd i none).add fid o').get j = if j = fid then some o' else if j = i then none else H.get j := fun j => by rw [AHeap.get_add, AHeap.get_upd]
  have hold : ∀ {j : Nat} {sj : Spot}, β.put fid s' j = some sj → (j = fid ∧ sj = s') ∨ (j ≠ fid ∧ β j = some sj) := by
    intro j sj hj
    by_cases e : j = fid
    · subst e; rw [Ren.put_same] at hj; cases hj; exact .inl ⟨rfl, rfl⟩
    · rw [Ren.put_other β s' e] at hj; exact .inr ⟨e, hj⟩
  have hne : ∀ j oj sj, H.get j = some oj → β j = some sj → j ≠ i → sj.blk ≠ s.blk := fun j oj sj a b e => (h.apart i j o oj s sj hi a hs b (Ne.symm e) hown).symm
  refine ⟨hle, ⟨?_, ?_, ?_, ?_⟩, hos, htp, hout, by omega, fun b hb hn => hk b fun e => hn ⟨i, o, s, hi, hs, hown, e.symm⟩, ?_, ?_⟩
  · intro j oj sj a b
    rw [hget] at a
    rcases hold b with ⟨rfl, rfl⟩ | ⟨e, b⟩
    · rw [if_pos rfl] at a; cases a; exact ho
    · rw [if_neg e] at a
      by_cases e2 : j = i
      · rw [if_pos e2] at a; cases a
      · rw [if_neg e2] at a; exact (h.obj j oj sj a b).mono hle (hk _ (hne j oj sj a b e2))
  · intro j sj b
    rcases hold b with ⟨rfl, rfl⟩ | ⟨e, b⟩
    · have := h.blk i s hs; omega
    · have := h.blk j sj b; omega
  · intro j k oj ok sj sk a b c d hjk hso2
    rw [hget] at a b
    rcases hold c with ⟨rfl, rfl⟩ | ⟨e, c⟩ <;> rcases hold d with ⟨rfl, rfl⟩ | ⟨e2, d⟩
    · exact absurd rfl hjk
    · rw [if_neg e2] at b
      by_cases e3 : k = i
      · rw [if_pos e3] at b; cases b
      · rw [if_neg e3] at b; rw [hb]; exact (hne k ok sk b ‹β k = some sk› e3).symm
    · rw [if_neg e] at a
      by_cases e3 : j = i
      · rw [if_pos e3] at a; cases a
      · rw [if_neg e3] at a; rw [hb]; exact hne j oj sj a ‹β j = some sj› e3
    · rw [if_neg e] at a; rw [if_neg e2] at b
      by_cases e3 : j = i
      · rw [if_pos e3] at a; cases a
      · by_cases e4 : k = i
        · rw [if_pos e4] at b; cases b
        · rw [if_neg e3] at a; rw [if_neg e4] at b
          exact h.apart j k oj ok sj sk a b c d hjk hso2
  · intro j hj
    have hj : H.next ≤ j := hj
    rw [Ren.put_other β s' (by omega)]
    exact h.fresh j hj
  · rintro b hb2 ⟨j, oj, sj, a, c, d, e⟩
    rw [hget] at a
    rcases hold c with ⟨rfl, rfl⟩ | ⟨e2, c⟩
    · exact ⟨i, o, s, hi, hs, hown, by omega⟩
    · rw [if_neg e2] at a
      by_cases e3 : j = i
      · rw [if_pos e3] at a; cases a
      · rw [if_neg e3] at a; exact ⟨j, oj, sj, a, c, d, e⟩
  · rintro b hb2 ⟨j, oj, sj, a, c, e⟩
    rw [hget] at a
    rcases hold c with ⟨rfl, rfl⟩ | ⟨e2, c⟩
    · exact ⟨i, o, s, hi, hs, by omega⟩
    · rw [if_neg e2] at a
      by_cases e3 : j = i
      · rw [if_pos e3] at a; cases a
      · rw [if_neg e3] at a; exact ⟨j, oj, sj, a, c, e⟩

/-- cells written one behind the other into a block -/
theorem run_storeCells_row {P : Program} {b : Nat} {elem : TypeId} {fz : Nat × Nat} : ∀ (vs : List Value) (w : World) (c : Array Value) (q k : Nat), w.heap[b]? = some (.cells c elem fz) → q + k + vs.length ≤ c.size → (∀ j, j < c.size → (decide (fz.1 ≤ j) && decide (j < fz.2)) = false) → (∀ v ∈ vs, v.oneCell' = true) →
    ∃ w' c2, (storeCells ⟨b, q, none⟩ vs k).run P w = .ok () w' ∧ w'.heap[b]? = some (.cells c2 elem fz) ∧ c2.size = c.size ∧ (∀ j, j < q + k → c2[j]? = c[j]?) ∧ (∀ j v, vs[j]? = some v → c2[q + k + j]? = some v) ∧
      w'.os = w.os ∧ w'.tape = w.tape ∧ w'.output = w.output ∧ w'.heap.size = w.heap.size ∧ ∀ d, d ≠ b → w'.heap[d]? = w.heap[d]?
  | [], w, c, q, k, h, _, _, _ => ⟨w, c, by simp [storeCells], h, rfl, fun _ _ => rfl, fun j v hj => by simp at hj, rfl, rfl, rfl, rfl, fun _ _ => rfl⟩
  | v :: vs, w, c, q, k, h, hl, hf, ho => by
    simp only [List.length_cons] at hl
    have hlt : q + k < c.size := by omega
    have hcell : w.cell? ⟨b, q + k, none⟩ = some c[q + k] := by rw [World.cell?, h]; simp [hlt]
    have hfz : w.frozen? ⟨b, q + k, none⟩ = false := by simp only [World.frozen?, h]; exact hf _ hlt
    have hw1 : (w.setCell ⟨b, q + k, none⟩ v).heap[b]? = some (.cells (c.setIfInBounds (q + k) v) elem fz) := by
      simp only [World.setCell, Array.getElem?_modify, if_true, h, Option.map_some]; rfl
    obtain ⟨w', c2, h1, h2, h3, h4, h5, h6, h7, h8, h9, h10⟩ := run_storeCells_row (P := P) vs (w.setCell ⟨b, q + k, none⟩ v) (c.setIfInBounds (q + k) v) q (k + 1) hw1 (by simp; omega) (fun j hj => hf j (by simpa using hj)) (fun u hu => ho u (by simp [hu]))
    refine ⟨w', c2, ?_, h2, by simpa using h3, fun j hj => ?_, fun j u hu => ?_, h6, h7, h8, by simpa using h9, fun d hd => (h10 d hd).trans (Below.heap_setCell _ _ _ _ hd)⟩
    · simp only [storeCells, Sem.run_bind, run_store _ _ _ _ _ (ho v (by simp)), add_none, hcell, hfz, Result.andThen]
      exact h1
    · rw [h4 j (by omega), Array.getElem?_setIfInBounds_ne (by omega)]
    · cases j with
      | zero =>
        simp at hu; subst hu
        rw [Nat.add_zero, h4 (q + k) (by omega)]
        simp [hlt]
      | succ j => have := h5 j u hu; rwa [show q + (k + 1) + j = q + k + (j + 1) from by omega] at this

/-! ### append -/
/-- the cells that are added -/
def addCells (size : Nat) (x : Value) (H : AHeap) : Option (Nat × List Value) :=
  match x with
  | .slice none 0 0 => some (0, [])
  | .slice (some ⟨i, o, none⟩) n _ => match H.get i with
    | some (.row cells _ _ _) => (cut cells o (n * size)).map fun l => (n, l)
    | _ => none
  | .string s => cond (Nat.beq size 1) (some (s.size, (s.data.map fun b => Value.int .u8 b.toNat).toList)) none
  | _ => none
theorem cut_zero {cells : List Value} {o : Nat} {l : List Value} (h : cut cells o 0 = some l) : l = [] := List.eq_nil_of_length_eq_zero (cut_some h).1
theorem addCells_vr {P : Program} {β : Ren} {H : AHeap} {w : World} (hr : Rel β H w) {size : Nat} {x x' : Value} (hx : VR β x x') {n : Nat} {news : List Value} (h : addCells size x H = some (n, news)) :
    ∃ news' : List Value, news.length = news'.length ∧ news.length = n * size ∧ (∀ (j : Nat) (u v : Value), news[j]? = some u → news'[j]? = some v → VR β u v) ∧ (Builtin.lenOf x').run P w = .ok n w ∧
      (∀ W : World, W.heap = w.heap → (Builtin.lenOf x').run P W = .ok n W ∧ (Builtin.firstCells size n x').run P W = .ok news'.toArray W) := by
  unfold addCells at h
  split at h
  · cases h; cases hx
    exact ⟨[], rfl, by simp, fun j u v hu => by simp at hu, by simp [Builtin.lenOf], fun W _ => ⟨by simp [Builtin.lenOf], by simp [Builtin.firstCells]⟩⟩
  · rename_i i o m c
    split at h
    · rename_i cells elem esz own hi
      obtain ⟨l, hl, he⟩ := Option.map_eq_some_iff.1 h
      cases he
      cases hx with
      | slice hs hn hm hc =>
        obtain ⟨l', h1, h2, h3, h4⟩ := rel_piece hr hi hs hl
        refine ⟨l', by omega, h2, h4, by simp [Builtin.lenOf], fun W hW => ⟨by simp [Builtin.lenOf], ?_⟩⟩
        refine run_firstCells_some W size _ _ _ _ l' h1 fun j v hj => ?_
        have := h3 j v hj
        unfold World.cell? at this ⊢
        rw [hW]; exact this
      | sliceE hs hm hc =>
        have hl' := hl
        rw [Nat.zero_mul] at hl'
        have := cut_zero hl'; subst this
        exact ⟨[], rfl, by simp, fun j u v hu => by simp at hu, by simp [Builtin.lenOf], fun W hW => ⟨by simp [Builtin.lenOf], by simp [Builtin.firstCells, loadCells, loadCellsFrom]⟩⟩
    · cases h
  · rename_i s
    cases hb : Nat.beq size 1 with
    | false => rw [hb] at h; cases h
    | true =>
      rw [hb] at h
      simp only [cond, Option.some.injEq, Prod.mk.injEq] at h
      have := Nat.eq_of_beq_eq_true hb; subst this
      obtain ⟨rfl, rfl⟩ := h
      cases hx
      have hsz : (s.data.map fun b => Value.int .u8 (b.toNat : Int)).toList.length = s.size := by simp
      refine ⟨(s.data.map fun b => Value.int .u8 (b.toNat : Int)).toList, rfl, hsz.trans (Nat.mul_one _).symm, fun j u v hu hv => ?_, by simp [Builtin.lenOf], fun W hW => ⟨by simp [Builtin.lenOf], ?_⟩⟩
      · rw [hu] at hv; cases hv
        rw [Array.getElem?_toList, Array.getElem?_map] at hu
        obtain ⟨b, _, rfl⟩ := Option.map_eq_some_iff.1 hu
        exact .int _ _
      · have e : s.extract 0 s.size = s := by simp
        simp only [Builtin.firstCells, e, Sem.run_pure]
  · cases h

/-- what may be added from: a slice, a string -/
def srcT : TypeDesc → Bool
  | .slice _ | .string => true
  | _ => false
/-- what append comes to where there is no room -/
theorem run_append_more {P : Program} (w : World) {t u el : TypeId} {inf : TypeInfo} {z : Value} {d : TypeDesc} (ht : P.underlying t = some (.slice el)) (hu : P.underlying u = some d) (hnd : srcT d = true) (hi : P.info? el = some inf) (hz : inf.zero = some z)
    {base : Option Addr} {n c m : Nat} {x : Value} {olds news : List Value} (hlen : ∀ W : World, W.heap = w.heap → (Builtin.lenOf x).run P W = .ok m W ∧ (Builtin.firstCells inf.size m x).run P W = .ok news.toArray W)
    (hold : ∀ W : World, W.heap = w.heap → (Builtin.firstCells inf.size n (.slice base n c)).run P W = .ok olds.toArray W) (hg : c < n + m) (hb : (n + m) * inf.bytes ≤ 140737488355328) (h63 : n + m ≤ 9223372036854775807) (ty : TypeId) :
    (Builtin.append_ #[t, u] ty #[.slice base n c, x]).run P w = .ok (.slice (some ⟨w.heap.size, 0, none⟩) (n + m) (grownCap w (n + m) c el)) (w.drew.alloc (.cells ((olds ++ news) ++ (Builtin.zeroCells z.cells (grownCap w (n + m) c el - (n + m))).toList).toArray el)) := by
  have hfit := growslice_fits hg hb
  have hn : ¬ (n + m ≤ c) := by omega
  have h63' : ¬ (9223372036854775807 < ((n : Int) + (m : Int))) := by omega
  have h48' : ¬ (281474976710656 < Builtin.nextslicecap (n + m) c * inf.bytes) := by omega
  obtain ⟨hl1, _⟩ := hlen w rfl
  obtain ⟨_, hl2⟩ := hlen w.drew rfl
  have ho2 := hold w.drew rfl
  cases d <;> cases hnd <;> simp [Builtin.append_, run_underlying' ht, run_underlying' hu, sizeOf, typeInfo, zeroValue, hi, hz, hl1, hl2, ho2, hn, h63', h48', Question.forced, newRow, grownCap]
  all_goals (congr 2; apply Array.ext'; simp)
theorem run_append_fits' {P : Program} (w : World) {t u el : TypeId} {inf : TypeInfo} {d : TypeDesc} (ht : P.underlying t = some (.slice el)) (hu : P.underlying u = some d) (hnd : srcT d = true) (hi : P.info? el = some inf)
    {a : Addr} {n c m : Nat} {x : Value} {news : List Value} (hlen : ∀ W : World, W.heap = w.heap → (Builtin.lenOf x).run P W = .ok m W ∧ (Builtin.firstCells inf.size m x).run P W = .ok news.toArray W) (hg : n + m ≤ c) (ty : TypeId) {w' : World} (hst : (storeCells (a.add (n * inf.size)) news).run P w = .ok () w') :
    (Builtin.append_ #[t, u] ty #[.slice (some a) n c, x]).run P w = .ok (.slice (some a) (n + m) c) w' := by
  obtain ⟨hl1, hl2⟩ := hlen w rfl
  cases d <;> cases hnd <;> simp [Builtin.append_, run_underlying' ht, run_underlying' hu, sizeOf, typeInfo, hi, hl1, hl2, hg, hst]
theorem run_append_none' {P : Program} (w : World) {t u el : TypeId} {inf : TypeInfo} {d : TypeDesc} (ht : P.underlying t = some (.slice el)) (hu : P.underlying u = some d) (hnd : srcT d = true) (hi : P.info? el = some inf)
    {base : Option Addr} {n c : Nat} {x : Value} (hlen : ∀ W : World, W.heap = w.heap → (Builtin.lenOf x).run P W = .ok 0 W ∧ (Builtin.firstCells inf.size 0 x).run P W = .ok (#[] : Array Value) W) (hg : n ≤ c) (ty : TypeId) :
    (Builtin.append_ #[t, u] ty #[.slice base n c, x]).run P w = .ok (.slice base n c) w := by
  obtain ⟨hl1, hl2⟩ := hlen w rfl
  cases base <;> cases d <;> cases hnd <;> simp [Builtin.append_, run_underlying' ht, run_underlying' hu, sizeOf, typeInfo, hi, hl1, hl2, hg, storeCells]

def roomOk (k bytes : Nat) : Bool := Nat.ble (k * bytes) 140737488355328 && Nat.ble k 4611686018427387904
def aAppend (P : Program) (t u : TypeId) (s x : Value) (fid : Nat) (H : AHeap) : Option (Value × AHeap) :=
  match P.underlying t, P.underlying u with
  | some (.slice el), some d => cond (srcT d) (match P.info? el with
    | some inf => match inf.zero, addCells inf.size x H with
      | some _, some (m, news) => match s with
        | .slice none 0 0 => cond (Nat.beq m 0) (some (s, H)) (cond (roomOk m inf.bytes) (some (.slice (some ⟨fid, 0, none⟩) m 0, newRowA fid news el inf.size H)) none)
        | .slice (some ⟨i, o, none⟩) n c => cond (Nat.beq m 0) (some (s, H)) (match H.get i with
          | some (.row cells elem esz own) => match cut cells o (n * inf.size) with
            | some olds => cond (roomOk (n + m) inf.bytes) (match c with
              | 0 => cond (own && (Nat.beq esz inf.size && (Nat.beq elem el && news.all oneV))) (some (.slice (some ⟨fid, 0, none⟩) (n + m) 0, (H.upd i none).add fid (.row (olds ++ news) el inf.size true))) none
              | c + 1 => cond (Nat.ble (n + m) c) (cond own ((aStoreCells i elem esz H cells (o + n * inf.size) news).map fun H' => (.slice (some ⟨i, o, none⟩) (n + m) (c + 1), H')) none)
                  (some (.slice (some ⟨fid, 0, none⟩) (n + m) 0, newRowA fid (olds ++ news) el inf.size H))) none
            | none => none
          | _ => none)
        | _ => none
      | _, _ => none
    | none => none) none
  | _, _ => none

theorem grownCap_bounds (w : World) (need old : Nat) (e : TypeId) (h : need ≤ 4611686018427387904) : need ≤ grownCap w need old e ∧ grownCap w need old e ≤ 9223372036854775807 := by
  have hp : (2 : Nat) ^ 63 = 9223372036854775808 := by decide
  simp only [grownCap, Question.cut, hp]
  have := Nat.mod_lt (w.tape w.drawn (.appendCap need old e)) (show 0 < 9223372036854775808 - need by omega)
  omega
theorem app_vr {β : Ren} {a b a' b' : List Value} (hl : a.length = a'.length) (h1 : ∀ (j : Nat) (x y : Value), a[j]? = some x → a'[j]? = some y → VR β x y) (h2 : ∀ (j : Nat) (x y : Value), b[j]? = some x → b'[j]? = some y → VR β x y) :
    ∀ (j : Nat) (x y : Value), (a ++ b)[j]? = some x → (a' ++ b')[j]? = some y → VR β x y := by
  intro j x y hx hy
  by_cases hj : j < a.length
  · rw [List.getElem?_append_left hj] at hx
    rw [List.getElem?_append_left (by omega)] at hy
    exact h1 j x y hx hy
  · rw [List.getElem?_append_right (by omega)] at hx
    rw [List.getElem?_append_right (by omega)] at hy
    rw [← hl] at hy
    exact h2 _ x y hx hy

/-- the new row that append makes -/
theorem append_new {β : Ren} {H : AHeap} {w : World} (hr : Rel β H w) {fid : Nat} (hf : β fid = none) (hn : fid < H.next) {cells cells' rest : List Value} {el : TypeId} {size k cap : Nat} (hl : cells.length = cells'.length) (hks : cells.length = k * size) (hkc : k ≤ cap) (hcm : cap ≤ 9223372036854775807)
    (hrest : rest.length = (cap - k) * size) (hc : ∀ (j : Nat) (x y : Value), cells[j]? = some x → cells'[j]? = some y → VR β x y) :
    ∃ β', VR β' (.slice (some ⟨fid, 0, none⟩) k 0) (.slice (some ⟨w.heap.size, 0, none⟩) k cap) ∧ Goes β H w β' (newRowA fid cells el size H) (w.drew.alloc (.cells (cells' ++ rest).toArray el)) ∧ ∀ i, i ≠ fid → β' i = β i := by
  have g := (Goes.drew hr).trans (goes_newRow hr.drew hf hn rest el size hl hc)
  refine ⟨_, .slice (s := ⟨w.heap.size, 0, size, (cells' ++ rest).length, true⟩) (Ren.put_same ..) hkc hcm (.inr ⟨rfl, fun _ => ?_⟩), g, put_other⟩
  simp only [List.length_append, hrest, ← hl, hks, ← Nat.add_mul]
  rw [show k + (cap - k) = cap from by omega]; omega

theorem zeroCells_len {z : Array Value} {n size : Nat} (h : z.size = size) : (Builtin.zeroCells z n).toList.length = n * size := by
  simp [Builtin.zeroCells, h]
/-- what the program's table must say: a zero value has its type's size -/
def zeroOk (P : Program) (t : TypeId) : Bool := match P.info? t with
  | some inf => match inf.zero with
    | some z => Nat.beq z.cells.size inf.size
    | none => false
  | none => false

theorem fits_append {P : Program} {o : Oper} {ρ : Operand → Value} {t u : TypeId} {x y : Operand} {v : Value} {H' : AHeap} (ho : o.op = .call { callee := .builtin .append, args := #[x, y], argTypes := #[t, u] }) (fid : Nat) (H : AHeap)
    (hz : ∀ el, P.underlying t = some (.slice el) → zeroOk P el = true) (h : aAppend P t u (ρ x) (ρ y) fid H = some (v, H')) : Fits P o ρ fid H v H' := by
  intro β w ρ' hr hf hfn hρ
  have hx := hρ x (by simp [ho, Op.operands, Call.operands])
  have hy := hρ y (by simp [ho, Op.operands, Call.operands])
  have hrun : ∀ (v' : Value) (w' : World), (Builtin.append_ #[t, u] o.type #[ρ' x, ρ' y]).run P w = .ok v' w' → (execOp ρ' o).run P w = .ok (.value v') w' := by
    intro v' w' he
    simp [execOp, ho, resolve, invoke, builtin, he]
  unfold aAppend at h
  split at h
  · rename_i el d ht hu
    cases hnd : srcT d with
    | false => rw [hnd] at h; cases h
    | true =>
      rw [hnd] at h
      simp only [cond] at h
      split at h
      · rename_i inf hinf
        have hz1 := hz el ht
        simp only [zeroOk, hinf] at hz1
        split at h
        · rename_i zz m news hzz hadd
          rw [hzz] at hz1
          have hzs := Nat.eq_of_beq_eq_true hz1
          obtain ⟨news', hn1, hn2, hn3, hn4, hn5⟩ := addCells_vr (P := P) hr hy hadd
          split at h
          · rename_i hsx
            rw [hsx] at hx
            generalize hq : ρ' x = q at hx hrun
            cases hx
            cases hm : Nat.beq m 0 with
            | true =>
              have := Nat.eq_of_beq_eq_true hm; subst this
              simp at h
              obtain ⟨rfl, rfl⟩ := h
              have hn0 : news' = [] := List.eq_nil_of_length_eq_zero (by omega)
              subst hn0
              refine ⟨β, _, w, ⟨_, hrun _ _ (run_append_none' w ht hu hnd hinf hn5 (Nat.le_refl 0) _), .inl rfl⟩, by rw [hsx]; exact .slice0, .refl hr, fun _ _ => rfl, rfl⟩
            | false =>
              have hm0 : m ≠ 0 := fun e => by rw [e] at hm; cases hm
              simp [hm] at h
              cases hro : roomOk m inf.bytes with
              | false => simp [hro] at h
              | true =>
                simp [hro] at h
                obtain ⟨rfl, rfl⟩ := h
                simp [roomOk, Nat.ble_eq] at hro
                have hgc := grownCap_bounds w m 0 el hro.2
                obtain ⟨β', h1, h2, h3⟩ := append_new hr hf hfn (el := el) (size := inf.size) (k := m) (cap := grownCap w m 0 el) (rest := (Builtin.zeroCells zz.cells (grownCap w m 0 el - m)).toList) hn1 hn2 hgc.1 hgc.2 (zeroCells_len hzs) hn3
                have hrr := run_append_more w ht hu hnd hinf hzz (base := none) (n := 0) (c := 0) (olds := []) hn5 (fun W _ => by simp [Builtin.firstCells]) (by omega) (by simpa using hro.1) (by omega) o.type
                simp only [Nat.zero_add, List.nil_append] at hrr
                exact ⟨β', _, _, ⟨_, hrun _ _ hrr, .inl rfl⟩, h1, h2, h3, rfl⟩
          · rename_i i p n c hsx
            cases hm : Nat.beq m 0 with
            | true =>
              have := Nat.eq_of_beq_eq_true hm; subst this
              simp at h
              obtain ⟨rfl, rfl⟩ := h
              have hn0 : news' = [] := List.eq_nil_of_length_eq_zero (by omega)
              subst hn0
              have hx2 := hx
              rw [hsx] at hx
              generalize hq : ρ' x = q at hx hrun hx2
              cases hx with
              | slice hs hn hmm hc => exact ⟨β, _, w, ⟨_, hrun _ _ (run_append_none' w ht hu hnd hinf hn5 hn _), .inl rfl⟩, hx2, .refl hr, fun _ _ => rfl, rfl⟩
              | sliceE hs hmm hc => exact ⟨β, _, w, ⟨_, hrun _ _ (run_append_none' w ht hu hnd hinf hn5 (Nat.zero_le _) _), .inl rfl⟩, hx2, .refl hr, fun _ _ => rfl, rfl⟩
            | false =>
              have hm0 : m ≠ 0 := fun e => by rw [e] at hm; cases hm
              rw [hm] at h
              simp only at h
              split at h
              · rename_i cells elem esz own hi
                split at h
                · rename_i olds holds
                  cases hro : roomOk (n + m) inf.bytes with
                  | false => rw [hro] at h; cases h
                  | true =>
                    rw [hro] at h
                    simp only at h
                    simp [roomOk, Nat.ble_eq] at hro
                    rw [hsx] at hx
                    generalize hq : ρ' x = q at hx hrun
                    -- the model's slice: its block, its place, its cells
                    obtain ⟨s, bp, c', olds', rfl, hs, hbp, hnc, hcm, hcap, hol1, hol2, hol3, hol4⟩ : ∃ (s : Spot) (bp c' : Nat) (olds' : List Value), q = .slice (some ⟨s.blk, bp, none⟩) n c' ∧ β i = some s ∧ (n = 0 ∨ bp = s.shift + p) ∧ n ≤ c' ∧ c' ≤ 9223372036854775807 ∧ (c = c' + 1 ∧ bp = s.shift + p ∨ c = 0 ∧ (s.own = true → bp + c' * s.esz ≤ s.tot)) ∧
                        olds.length = olds'.length ∧ olds.length = n * inf.size ∧ (∀ (j : Nat) (x y : Value), olds[j]? = some x → olds'[j]? = some y → VR β x y) ∧ (∀ j v', olds'[j]? = some v' → w.cell? ((⟨s.blk, bp, none⟩ : Addr).add j) = some v') := by
                      cases hx with
                      | slice hs hn hmm hc =>
                        obtain ⟨l', a1, a2, a3, a4⟩ := rel_piece hr hi hs holds
                        refine ⟨_, _, _, l', rfl, hs, .inr rfl, hn, hmm, ?_, by omega, a2, a4, a3⟩
                        rcases hc with hc | hc
                        · exact .inl ⟨hc, rfl⟩
                        · exact .inr hc
                      | sliceE hs hmm hc =>
                        have : olds = [] := cut_zero (by rwa [Nat.zero_mul] at holds)
                        subst this
                        exact ⟨_, _, _, [], rfl, hs, .inl rfl, Nat.zero_le _, hmm, .inr ⟨rfl, hc⟩, rfl, by simp, fun j x y hx => by simp at hx, fun j v hj => by simp at hj⟩
                    have hfirst : ∀ W : World, W.heap = w.heap → (Builtin.firstCells inf.size n (.slice (some ⟨s.blk, bp, none⟩) n c')).run P W = .ok olds'.toArray W := fun W hW => by
                      refine run_firstCells_some W inf.size n _ n c' olds' (by omega) fun j v hj => ?_
                      have := hol4 j v hj
                      unfold World.cell? at this ⊢
                      rw [hW]; exact this
                    have hnew : c' < n + m → ∃ β' v' w', (∃ n, (execOp ρ' o).run P w = .ok n w' ∧ (n = .value v' ∨ n = .skip ∧ v' = undef)) ∧ VR β' (.slice (some ⟨fid, 0, none⟩) (n + m) 0) v' ∧ Goes β H w β' (newRowA fid (olds ++ news) el inf.size H) w' ∧ (∀ i, i ≠ fid → β' i = β i) := fun hlt => by
                      have hgc := grownCap_bounds w (n + m) c' el hro.2
                      obtain ⟨β', h1, h2, h3⟩ := append_new hr hf hfn (cells := olds ++ news) (cells' := olds' ++ news') (el := el) (size := inf.size) (k := n + m) (cap := grownCap w (n + m) c' el) (rest := (Builtin.zeroCells zz.cells (grownCap w (n + m) c' el - (n + m))).toList) (by simp; omega) (by simp [Nat.add_mul]; omega) hgc.1 hgc.2 (zeroCells_len hzs) (app_vr hol1 hol3 hn3)
                      exact ⟨β', _, _, ⟨_, hrun _ _ (run_append_more w ht hu hnd hinf hzz hn5 hfirst hlt hro.1 (by omega) _), .inl rfl⟩, h1, h2, h3⟩
                    cases c with
                    | succ c =>
                      simp only at h
                      have hcc : c' = c ∧ bp = s.shift + p := by rcases hcap with hcap | hcap <;> omega
                      obtain ⟨rfl, rfl⟩ := hcc
                      cases hble : Nat.ble (n + m) c' with
                      | false =>
                        have hlt : c' < n + m := by
                          rcases Nat.lt_or_ge c' (n + m) with h1 | h1
                          · exact h1
                          · rw [show Nat.ble (n + m) c' = true from by rw [Nat.ble_eq]; exact h1] at hble; cases hble
                        simp [hble] at h
                        obtain ⟨rfl, rfl⟩ := h
                        obtain ⟨β', v', w', a1, a2, a3, a4⟩ := hnew hlt
                        exact ⟨β', v', w', a1, a2, a3, a4, rfl⟩
                      | true =>
                        have hle : n + m ≤ c' := by rwa [Nat.ble_eq] at hble
                        rw [hble] at h
                        cases own with
                        | false => simp at h
                        | true =>
                          simp only at h
                          obtain ⟨H1, hst, he⟩ := Option.map_eq_some_iff.1 h
                          cases he
                          obtain ⟨w', b1, b2, b3, _⟩ := storeCells_goes (P := P) hs (p := p + n * inf.size) news news' H _ w cells (p + n * inf.size) 0 hr hi rfl hn1 hn3 hst
                          refine ⟨β, _, w', ⟨_, hrun _ _ (run_append_fits' w ht hu hnd hinf hn5 hle _ (w' := w') ?_), .inl rfl⟩, .slice hs hle hcm (.inl rfl), b2, fun _ _ => rfl, b3⟩
                          rw [add_none, Nat.add_assoc]; exact b1
                    | zero =>
                      simp only at h
                      cases hcnd : (own && (Nat.beq esz inf.size && (Nat.beq elem el && news.all oneV))) with
                      | false => rw [hcnd] at h; cases h
                      | true =>
                        rw [hcnd] at h
                        simp only [Option.some.injEq, Prod.mk.injEq] at h
                        obtain ⟨rfl, rfl⟩ := h
                        simp only [Bool.and_eq_true] at hcnd
                        obtain ⟨rfl, hez, hel, hone⟩ := hcnd
                        have hez := Nat.eq_of_beq_eq_true hez
                        have hel := Nat.eq_of_beq_eq_true hel
                        subst hez hel
                        have hob := hr.obj _ _ _ hi hs
                        have hso : s.own = true := hob.1.symm
                        obtain ⟨hse, cc, fz, hcc1, hcc2, hcc3⟩ := hob.2.2 rfl
                        have hcap2 : bp + c' * inf.size ≤ s.tot := by
                          rcases hcap with h0 | h0
                          · omega
                          · rw [hse] at h0; exact h0.2 hso
                        by_cases hlt : c' < n + m
                        · -- no room
                          obtain ⟨β', v', w', a1, a2, a3, a4⟩ := hnew hlt
                          have hki := Goes.kill a3.rel i
                          have hif : i ≠ fid := fun e => by rw [e, hf] at hs; cases hs
                          refine ⟨β', v', w', a1, a2, ⟨a3.le, ?_, a3.os, a3.tape, a3.output, a3.size, a3.keep, ?_, ?_⟩, a4, rfl⟩
                          · refine a3.rel.less (fun j oj sj hj _ => ?_) a3.rel.fresh
                            rw [AHeap.get_add, AHeap.get_upd] at hj
                            show (H.add fid _).get j = _
                            rw [AHeap.get_add]
                            by_cases e : j = fid
                            · rw [if_pos e] at hj ⊢; exact hj
                            · rw [if_neg e] at hj ⊢
                              by_cases e2 : j = i
                              · rw [if_pos e2] at hj; cases hj
                              · rwa [if_neg e2] at hj
                          · rintro b hb ⟨j, oj, sj, hj, q2, q3, q4⟩
                            refine a3.own b hb ⟨j, oj, sj, ?_, q2, q3, q4⟩
                            rw [AHeap.get_add, AHeap.get_upd] at hj
                            show (H.add fid _).get j = _
                            rw [AHeap.get_add]
                            by_cases e : j = fid
                            · rw [if_pos e] at hj ⊢; exact hj
                            · rw [if_neg e] at hj ⊢
                              by_cases e2 : j = i
                              · rw [if_pos e2] at hj; cases hj
                              · rwa [if_neg e2] at hj
                          · rintro b hb ⟨j, oj, sj, hj, q2, q4⟩
                            refine a3.vis b hb ⟨j, oj, sj, ?_, q2, q4⟩
                            rw [AHeap.get_add, AHeap.get_upd] at hj
                            show (H.add fid _).get j = _
                            rw [AHeap.get_add]
                            by_cases e : j = fid
                            · rw [if_pos e] at hj ⊢; exact hj
                            · rw [if_neg e] at hj ⊢
                              by_cases e2 : j = i
                              · rw [if_pos e2] at hj; cases hj
                              · rwa [if_neg e2] at hj
                        · -- room
                          have hle : n + m ≤ c' := by omega
                          have hmul : (n + m) * inf.size ≤ c' * inf.size := Nat.mul_le_mul_right _ hle
                          rw [Nat.add_mul] at hmul
                          have hone' : ∀ v ∈ news', v.oneCell' = true := fun v hv => by
                            obtain ⟨j, hj, rfl⟩ := List.mem_iff_getElem.1 hv
                            have h1 : news[j]? = some (news[j]'(by omega)) := by simp
                            exact oneV_vr (hn3 j _ _ h1 (by simp [hj])) (List.all_eq_true.1 hone _ (List.getElem_mem (by omega)))
                          obtain ⟨w', c2, d1, d2, d3, d4, d5, d6, d7, d8, d9, d10⟩ := run_storeCells_row (P := P) news' w cc (bp + n * inf.size) 0 hcc1 (by omega) (fun j hj => hcc3 j (.inr rfl)) hone'
                          refine ⟨β.put fid ⟨s.blk, bp, inf.size, s.tot, true⟩, _, w', ⟨_, hrun _ _ (run_append_fits' w ht hu hnd hinf hn5 hle _ (w' := w') ?_), .inl rfl⟩, ?_, Goes.move hr hi hs hso hf hfn w' d6 d7 d8 d9 d10 rfl rfl ?_, put_other, rfl⟩
                          · rw [add_none]; exact d1
                          · have hb0 : (⟨s.blk, bp, none⟩ : Addr) = ⟨s.blk, bp + 0, none⟩ := rfl
                            rw [hb0]
                            exact .slice (s := ⟨s.blk, bp, inf.size, s.tot, true⟩) (Ren.put_same ..) hle hcm (.inr ⟨rfl, fun _ => by simpa using hcap2⟩)
                          · have hle' : β.le (β.put fid ⟨s.blk, bp, inf.size, s.tot, true⟩) := β.le_put _ _ hf
                            refine ⟨rfl, fun j v hj => ?_, fun _ => ⟨rfl, c2, fz, d2, d3.trans hcc2, hcc3⟩⟩
                            have hcell : ∀ q, w'.cell? ⟨s.blk, q, none⟩ = c2[q]? := fun q => by simp [World.cell?, d2]
                            simp only [hcell]
                            by_cases hjo : j < olds.length
                            · rw [List.getElem?_append_left hjo] at hj
                              have e1 : olds'[j]? = some (olds'[j]'(by omega)) := by simp
                              refine ⟨olds'[j]'(by omega), ?_, (hol3 j v _ hj e1).mono hle'⟩
                              have h1 := hol4 j _ e1
                              rw [add_none] at h1
                              rw [d4 (bp + j) (by omega)]
                              simpa [World.cell?, hcc1] using h1
                            · rw [List.getElem?_append_right (by omega)] at hj
                              have hjl := (List.getElem?_eq_some_iff.1 hj).1
                              have e1 : news'[j - olds.length]? = some (news'[j - olds.length]'(by omega)) := by simp
                              refine ⟨news'[j - olds.length]'(by omega), ?_, (hn3 _ v _ hj e1).mono hle'⟩
                              have h1 := d5 _ _ e1
                              rwa [show bp + n * inf.size + 0 + (j - olds.length) = bp + j from by omega] at h1
                · cases h
              · cases h
          · cases h
        · cases h
      · cases h
  · cases h
end Go.Proofs.YtdfadipfhcikdaaGreatDoor

namespace Go.Proofs.YtdfadipfhcikdaaGreatDoor
open Go.RowKit

/-! ### a slice of parts -/
def aBuildSlice (P : Program) (ρ : Operand → Value) (t : TypeId) (len : Nat) (parts : Array (Nat × Operand)) (fid : Nat) (H : AHeap) : Option (Value × AHeap) :=
  match P.underlying t with
  | some (.slice el) => match P.info? el with
    | some inf => match inf.zero with
      | some z => cond (flat2 z && (Nat.ble (len * inf.size) 16777216 && Nat.ble len 16777216)) (match Instr.fill (fun i => some (i * inf.size, inf.size)) ((Array.range (len * inf.size)).map (z.cells[· % z.cells.size]!)) (parts.map fun (i, x) => (i, ρ x)).toList with
        | some cells => some (.slice (some ⟨fid, 0, none⟩) len (len + 1), newRowA fid cells.toList el inf.size H)
        | none => none) none
      | none => none
    | none => none
  | _ => none
theorem arrvr_map {β : Ren} {z : Array Value} (h : ArrVR β z z) (n : Nat) : ArrVR β ((Array.range n).map (z[· % z.size]!)) ((Array.range n).map (z[· % z.size]!)) := by
  refine ⟨rfl, fun j x y hx hy => ?_⟩
  rw [hx] at hy; cases hy
  rw [Array.getElem?_map] at hx
  obtain ⟨i, _, rfl⟩ := Option.map_eq_some_iff.1 hx
  by_cases hz : z.size = 0
  · have hz2 : z = #[] := Array.eq_empty_of_size_eq_zero hz
    subst hz2
    simp only [Array.size_empty, Nat.mod_zero]
    rw [getElem!_neg _ _ (by simp)]
    exact .bool false
  · have hlt : i % z.size < z.size := Nat.mod_lt _ (by omega)
    rw [getElem!_pos z _ hlt]
    exact h.2 (i % z.size) _ _ (by simp [hlt]) (by simp [hlt])
theorem fits_buildSlice {P : Program} {o : Oper} {ρ : Operand → Value} {t : TypeId} {n : Nat} {ps : Array (Nat × Operand)} {v : Value} {H' : AHeap} (ho : o.op = .buildSlice t n ps) (fid : Nat) (H : AHeap) (h : aBuildSlice P ρ t n ps fid H = some (v, H')) : Fits P o ρ fid H v H' := by
  intro β w ρ' hr hf hfn hρ
  have hp := parts_vr (β := β) (ρ := ρ) (ρ' := ρ') ps fun p hp => hρ p.2 (by simp only [ho, Op.operands]; simp only [List.mem_toArray, List.mem_map]; exact ⟨p, hp, rfl⟩)
  unfold aBuildSlice at h
  split at h
  · rename_i el ht
    split at h
    · rename_i inf hinf
      split at h
      · rename_i z hz
        cases hc : (flat2 z && (Nat.ble (n * inf.size) 16777216 && Nat.ble n 16777216)) with
        | false => rw [hc] at h; cases h
        | true =>
          rw [hc] at h
          simp only [cond] at h
          rw [Bool.and_eq_true, Bool.and_eq_true, Nat.ble_eq, Nat.ble_eq] at hc
          split at h
          · rename_i cells hcells
            simp only [Option.some.injEq, Prod.mk.injEq] at h
            obtain ⟨rfl, rfl⟩ := h
            obtain ⟨r', h2, h3⟩ := fill_vr (β := β) _ _ _ _ _ cells hp (arrvr_map (flat_arr hc.1) _) hcells
            have g := goes_newRow hr hf hfn (cells := cells.toList) (cells' := r'.toList) [] el inf.size (by simpa using h3.1) (by simpa using h3.2)
            refine ⟨_, .slice (some ⟨w.heap.size, 0, none⟩) n n, _, ⟨_, ?_, .inl rfl⟩, .slice (s := ⟨w.heap.size, 0, inf.size, (r'.toList ++ []).length, true⟩) (Ren.put_same ..) (Nat.le_refl _) ?_ (.inl rfl), g, put_other, rfl⟩
            · have hsz : ¬ (16777216 < n * inf.size) := by omega
              simp only [execOp, ho, Instr.buildSlice, Sem.run_bind, run_underlying' ht, Result.andThen_ok, run_sizeOf' hinf]
              simp only [show (2 : Nat) ^ 24 = 16777216 from rfl, gt_iff_lt, hsz, if_false, Sem.run_pure]
              by_cases h0 : n * inf.size = 0
              · rw [h0] at h2
                simp only [h0, if_true]
                have e0 : Array.range 0 = #[] := rfl
                simp only [e0, Array.map_empty] at h2 ⊢
                simp only [Sem.run_pure, Sem.run_bind, Result.andThen_ok, h2, newRow, run_newObj]
                simp
              · simp only [h0, if_false]
                simp only [Sem.run_pure, Sem.run_bind, Result.andThen_ok, run_zeroValue' hinf hz, h2, newRow, run_newObj]
                simp
            · have := hc.2.2; omega
          · cases h
      · cases h
    · cases h
  · cases h

/-! ### make of a slice -/
def aMakeSlice (P : Program) (t : TypeId) (l c : Value) (fid : Nat) (H : AHeap) : Option (Value × AHeap) :=
  match l, c with
  | .int _ (.ofNat l), .int _ (.ofNat c) => match P.underlying t with
    | some (.slice el) => match P.info? el with
      | some inf => match inf.zero with
        | some z => cond (flat2 z && (Nat.ble l c && (Nat.ble (inf.bytes * c) 281474976710656 && Nat.ble c 16777216))) (some (.slice (some ⟨fid, 0, none⟩) l (c + 1), newRowA fid (madeCells z.cells (c * inf.size)).toList el inf.size H)) none
        | none => none
      | none => none
    | _ => none
  | _, _ => none
theorem made_eq (z : Array Value) (n : Nat) : madeCells z n = (Array.range n).map (z[· % z.size]!) := rfl
theorem fits_makeSlice {P : Program} {o : Oper} {ρ : Operand → Value} {t : TypeId} {x y : Operand} {v : Value} {H' : AHeap} (ho : o.op = .makeSlice t x y) (fid : Nat) (H : AHeap) (h : aMakeSlice P t (ρ x) (ρ y) fid H = some (v, H')) : Fits P o ρ fid H v H' := by
  intro β w ρ' hr hf hfn hρ
  have h1 := hρ x (by simp [ho, Op.operands])
  have h2 := hρ y (by simp [ho, Op.operands])
  unfold aMakeSlice at h
  split at h
  · rename_i kl l kc c hx hy
    rw [hx] at h1; rw [hy] at h2
    have e1 : ρ' x = .int kl (.ofNat l) := by generalize ρ' x = u at h1; cases h1; rfl
    have e2 : ρ' y = .int kc (.ofNat c) := by generalize ρ' y = u at h2; cases h2; rfl
    split at h
    · rename_i el ht
      split at h
      · rename_i inf hinf
        split at h
        · rename_i z hz
          cases hc : (flat2 z && (Nat.ble l c && (Nat.ble (inf.bytes * c) 281474976710656 && Nat.ble c 16777216))) with
          | false => rw [hc] at h; cases h
          | true =>
            rw [hc] at h
            simp only [cond, Option.some.injEq, Prod.mk.injEq] at h
            obtain ⟨rfl, rfl⟩ := h
            simp only [Bool.and_eq_true, Nat.ble_eq] at hc
            obtain ⟨hfl, hlc, hby, hcm⟩ := hc
            have hby2 : (inf.bytes : Int) * (Int.ofNat c) ≤ 281474976710656 := by show (inf.bytes : Int) * (c : Int) ≤ _; rw [← Int.natCast_mul]; omega
            have hrun := run_make (P := P) w t el inf z ht hinf hz kl kc (.ofNat l) (.ofNat c) (Int.natCast_nonneg l) (by show (l : Int) ≤ (c : Int); omega) hby2 (by show (c : Int) ≤ _; omega)
            have hv := arrvr_map (flat_arr (β := β) hfl) (c * inf.size)
            have g := goes_newRow hr hf hfn (cells := (madeCells z.cells (c * inf.size)).toList) (cells' := (madeCells z.cells (c * inf.size)).toList) [] el inf.size rfl (by rw [made_eq]; exact fun j x y hx hy => hv.2 j x y (by rw [← Array.getElem?_toList]; exact hx) (by rw [← Array.getElem?_toList]; exact hy))
            refine ⟨_, .slice (some ⟨w.heap.size, 0, none⟩) l c, _, ⟨_, ?_, .inl rfl⟩, .slice (s := ⟨w.heap.size, 0, inf.size, _, true⟩) (Ren.put_same ..) hlc (by omega) (.inl rfl), g, put_other, rfl⟩
            simp only [execOp, ho, e1, e2, Sem.run_bind, hrun, Result.andThen_ok, Sem.run_pure]
            simp
        · cases h
      · cases h
    · cases h
  · cases h

/-! ### a slice of a slice -/
def boundOf : Option Value → Option (Option Nat)
  | none => some none
  | some (.int _ (.ofNat n)) => some (some n)
  | _ => none
def capKnown (size : Nat) (i : Nat) (H : AHeap) : Bool := match H.get i with
  | some (.row _ _ esz own) => !own || Nat.beq esz size
  | _ => false
def aSlice (P : Program) (t : TypeId) (x : Value) (lo hi mx : Option Value) (H : AHeap) : Option Value :=
  match P.underlying t with
  | some (.slice el) => match P.info? el with
    | some inf => match x, boundOf lo, boundOf hi, boundOf mx with
      | .slice none 0 0, some l, some h, some m => cond (Nat.beq (l.getD 0) 0 && (Nat.beq (h.getD 0) 0 && (Nat.beq (m.getD 0) 0 && (m.isNone || h.isSome)))) (some x) none
      | .slice (some ⟨i, o, none⟩) n c, some l, some h, some m => cond (Nat.ble (l.getD 0) (h.getD n) && (Nat.ble (h.getD n) (m.getD n) && (Nat.ble (m.getD n) n && (m.isNone || h.isSome)))) (match m, c with
          | some m, c => cond (Nat.beq c 0 && Nat.beq n 0) none (some (.slice (some ⟨i, cond (Nat.beq m (l.getD 0)) o (o + l.getD 0 * inf.size), none⟩) (h.getD n - l.getD 0) (m - l.getD 0 + 1)))
          | none, 0 => cond (capKnown inf.size i H) (some (cond (Nat.beq (l.getD 0) (h.getD n)) (.slice (some ⟨i, o, none⟩) 0 0) (.slice (some ⟨i, o + l.getD 0 * inf.size, none⟩) (h.getD n - l.getD 0) 0))) none
          | none, c + 1 => some (.slice (some ⟨i, cond (Nat.beq c (l.getD 0)) o (o + l.getD 0 * inf.size), none⟩) (h.getD n - l.getD 0) (c - l.getD 0 + 1))) none
      | _, _, _, _ => none
    | none => none
  | _ => none
theorem boundOf_vr {β : Ren} {ρ ρ' : Operand → Value} {x : Option Operand} {n : Option Nat} (h : boundOf (x.map ρ) = some n) (hv : ∀ y, x = some y → VR β (ρ y) (ρ' y)) : (n = none ∧ x.map ρ' = none) ∨ ∃ k m, n = some m ∧ x.map ρ' = some (.int k (.ofNat m)) := by
  cases x with
  | none => simp only [Option.map_none, boundOf, Option.some.injEq] at h; exact .inl ⟨h.symm, rfl⟩
  | some y =>
    have hy := hv y rfl
    simp only [Option.map_some] at h ⊢
    unfold boundOf at h
    split at h
    · rename_i he; cases he
    · rename_i k m he
      cases h
      simp only [Option.some.injEq] at he
      rw [he] at hy
      generalize ρ' y = u at hy
      cases hy
      exact .inr ⟨k, m, rfl, rfl⟩
    · cases h
theorem run_sliceBounds' {P : Program} (w : World) {lo hi mx : Option Value} {l h m : Option Nat} {n c : Nat} (hl : l = none ∧ lo = none ∨ ∃ k a, l = some a ∧ lo = some (.int k (.ofNat a))) (hh : h = none ∧ hi = none ∨ ∃ k a, h = some a ∧ hi = some (.int k (.ofNat a)))
    (hm : m = none ∧ mx = none ∨ ∃ k a, m = some a ∧ mx = some (.int k (.ofNat a))) (h1 : l.getD 0 ≤ h.getD n) (h2 : h.getD n ≤ m.getD c) (h3 : m.getD c ≤ c) (h4 : m.isSome = true → h.isSome = true) :
    (Instr.sliceBounds true n c lo hi mx).run P w = .ok (l.getD 0, h.getD n, m.getD c) w := by
  have hb : ∀ (k : IntKind) (a y : Nat) (code : BoundsCode), a ≤ y → (Instr.sliceBound (.int k (.ofNat a)) y code).run P w = .ok a w := fun k a y code hay => by
    have := run_sliceBound (P := P) w k (.ofNat a) y code (Int.natCast_nonneg a) (by show (a : Int) ≤ (y : Int); omega)
    simpa using this
  rcases hl with ⟨rfl, rfl⟩ | ⟨kl, la, rfl, rfl⟩ <;> rcases hh with ⟨rfl, rfl⟩ | ⟨kh, ha, rfl, rfl⟩ <;> rcases hm with ⟨rfl, rfl⟩ | ⟨km, ma, rfl, rfl⟩ <;> simp only [Option.getD_none, Option.getD_some] at h1 h2 h3 ⊢ <;> first
    | (simp at h4; done)
    | (simp only [Instr.sliceBounds, Sem.run_bind, Sem.run_pure, Result.andThen_ok]; repeat (first | rw [hb _ _ _ _ (by omega)] | simp only [Result.andThen_ok]))
theorem run_sliceAt' {P : Program} (w : World) {t el : TypeId} {inf : TypeInfo} {lo hi mx : Option Value} {l h m : Nat} {a : Option Addr} {n c : Nat} (ht : P.underlying t = some (.slice el)) (hi' : P.info? el = some inf) (hb : (Instr.sliceBounds true n c lo hi mx).run P w = .ok (l, h, m) w) :
    (Instr.sliceAt t (.slice a n c) lo hi mx).run P w = .ok (.slice (if m = l then a else a.map (·.add (l * inf.size))) (h - l) (m - l)) w := by
  simp only [Instr.sliceAt, Sem.run_bind, run_underlying' ht, Result.andThen_ok, Instr.slice, hb, run_sizeOf' hi', Sem.run_pure]
theorem fits_slice {P : Program} {o : Oper} {ρ : Operand → Value} {t : TypeId} {x : Operand} {lo hi mx : Option Operand} {v : Value} (ho : o.op = .slice t x lo hi mx) (fid : Nat) (H : AHeap) (h : aSlice P t (ρ x) (lo.map ρ) (hi.map ρ) (mx.map ρ) H = some v) : Fits P o ρ fid H v H := by
  refine fits_value fid H fun β w ρ' hr hρ => ?_
  have hx := hρ x (by simp [ho, Op.operands])
  have hvl : ∀ y, lo = some y → VR β (ρ y) (ρ' y) := fun y hy => hρ y (by simp [ho, Op.operands, hy])
  have hvh : ∀ y, hi = some y → VR β (ρ y) (ρ' y) := fun y hy => hρ y (by simp [ho, Op.operands, hy])
  have hvm : ∀ y, mx = some y → VR β (ρ y) (ρ' y) := fun y hy => hρ y (by simp [ho, Op.operands, hy])
  have hrun : ∀ v', (Instr.sliceAt t (ρ' x) (lo.map ρ') (hi.map ρ') (mx.map ρ')).run P w = .ok v' w → (execOp ρ' o).run P w = .ok (.value v') w := fun v' hv => by
    simp only [execOp, ho, Sem.run_bind, hv, Result.andThen_ok, Sem.run_pure]
  unfold aSlice at h
  split at h
  · rename_i el ht
    split at h
    · rename_i inf hinf
      split at h
      · rename_i l hh m hxx hl hhi hm
        rw [hxx] at hx
        have el1 := boundOf_vr hl hvl
        have eh1 := boundOf_vr hhi hvh
        have em1 := boundOf_vr hm hvm
        cases hc : (Nat.beq (l.getD 0) 0 && (Nat.beq (hh.getD 0) 0 && (Nat.beq (m.getD 0) 0 && (m.isNone || hh.isSome)))) with
        | false => rw [hc] at h; cases h
        | true =>
          rw [hc] at h
          simp only [cond, Option.some.injEq] at h
          subst h
          simp only [Bool.and_eq_true, Bool.or_eq_true] at hc
          obtain ⟨c1, c2, c3, c4⟩ := hc
          have c1 := Nat.eq_of_beq_eq_true c1
          have c2 := Nat.eq_of_beq_eq_true c2
          have c3 := Nat.eq_of_beq_eq_true c3
          generalize hq : ρ' x = q at hx hrun
          cases hx
          have hb := run_sliceBounds' (P := P) w (n := 0) (c := 0) el1 eh1 em1 (by omega) (by omega) (by omega) (fun hs => c4.resolve_left (by cases m <;> simp at hs ⊢))
          refine ⟨.slice none 0 0, hrun _ ?_, by rw [hxx]; exact .slice0⟩
          rw [run_sliceAt' w ht hinf hb]
          simp [c1, c2, c3]
      · rename_i i p n c l hh m hxx hl hhi hm
        rw [hxx] at hx
        have el1 := boundOf_vr hl hvl
        have eh1 := boundOf_vr hhi hvh
        have em1 := boundOf_vr hm hvm
        cases hc : (Nat.ble (l.getD 0) (hh.getD n) && (Nat.ble (hh.getD n) (m.getD n) && (Nat.ble (m.getD n) n && (m.isNone || hh.isSome)))) with
        | false => rw [hc] at h; cases h
        | true =>
          rw [hc] at h
          simp only [cond] at h
          simp only [Bool.and_eq_true, Bool.or_eq_true, Nat.ble_eq] at hc
          obtain ⟨c1, c2, c3, c4⟩ := hc
          have c4' : m.isSome = true → hh.isSome = true := fun hs => c4.resolve_left (by cases m <;> simp at hs ⊢)
          generalize hq : ρ' x = q at hx hrun
          generalize hL : l.getD 0 = L at *
          generalize hHH : hh.getD n = HH at *
          cases m with
          | some m =>
            simp only [Option.getD_some] at c2 c3
            cases hcz : (Nat.beq c 0 && Nat.beq n 0) with
            | true => simp only [hcz] at h; cases h
            | false =>
            simp only [hcz, Option.some.injEq] at h
            subst h
            cases hx with
            | @slice _ _ _ _ c' s hs hn hmm hcc =>
              have hb := run_sliceBounds' (P := P) w (n := n) (c := c') el1 eh1 em1 (by omega) (by simp only [Option.getD_some]; omega) (by simp only [Option.getD_some]; omega) c4'
              refine ⟨_, hrun _ (run_sliceAt' w ht hinf hb), ?_⟩
              simp only [hL, hHH, Option.getD_some, Option.map_some, add_none]
              cases hbq : Nat.beq m L with
              | true =>
                have := Nat.eq_of_beq_eq_true hbq; subst this
                simp only [if_true]
                exact .slice hs (by omega) (by omega) (.inl (by omega))
              | false =>
                have := Nat.ne_of_beq_eq_false hbq
                simp only [if_neg this, Nat.add_assoc]
                exact .slice hs (by omega) (by omega) (.inl (by omega))
            | @sliceE _ _ pp c' s hs hmm hcc =>
              simp at hcz
          | none =>
            simp only [Option.getD_none] at c2 c3
            cases hx with
            | @slice _ _ _ _ c' s hs hn hmm hcc =>
              have hb := run_sliceBounds' (P := P) w (n := n) (c := c') el1 eh1 em1 (by omega) (by simp only [Option.getD_none]; omega) (by simp) c4'
              cases c with
              | zero =>
                simp only at h
                cases hck : capKnown inf.size i H with
                | false => rw [hck] at h; cases h
                | true =>
                rw [hck] at h
                simp only [Option.some.injEq] at h
                have hcb : s.own = true → s.shift + p + c' * s.esz ≤ s.tot := by
                  rcases hcc with hcc | hcc
                  · omega
                  · exact hcc.2
                have hez : s.own = true → s.esz = inf.size := fun hso => by
                  unfold capKnown at hck
                  split at hck
                  · rename_i cells elem esz own hi
                    obtain ⟨q1, _, q3⟩ := hr.obj _ _ _ hi hs
                    rw [hso] at q1; subst q1
                    have := Nat.eq_of_beq_eq_true (by simpa using hck)
                    rw [← this]; exact (q3 rfl).1
                  · cases hck
                refine ⟨_, hrun _ (run_sliceAt' w ht hinf hb), ?_⟩
                simp only [hL, hHH, Option.getD_none, Option.map_some, add_none]
                have hmul : L * inf.size + (c' - L) * inf.size = c' * inf.size := by rw [← Nat.add_mul]; congr 1; omega
                cases hbq : Nat.beq L HH with
                | true =>
                  have := Nat.eq_of_beq_eq_true hbq; subst this
                  rw [hbq] at h
                  simp only at h
                  subst h
                  rw [Nat.sub_self]
                  by_cases hcl : c' = L
                  · rw [if_pos hcl]
                    refine .sliceE hs (by omega) fun hso => ?_
                    have := hcb hso
                    rw [show c' - L = 0 from by omega]; omega
                  · rw [if_neg hcl]
                    refine .sliceE hs (by omega) fun hso => ?_
                    have h1 := hcb hso
                    rw [hez hso] at h1 ⊢
                    omega
                | false =>
                  have hne := Nat.ne_of_beq_eq_false hbq
                  rw [hbq] at h
                  simp only at h
                  subst h
                  rw [if_neg (by omega), Nat.add_assoc]
                  refine .slice hs (by omega) (by omega) (.inr ⟨rfl, fun hso => ?_⟩)
                  have h1 := hcb hso
                  rw [hez hso] at h1 ⊢
                  omega
              | succ c =>
                simp only [Option.some.injEq] at h
                subst h
                have : c' = c := by rcases hcc with hcc | hcc <;> omega
                subst this
                refine ⟨_, hrun _ (run_sliceAt' w ht hinf hb), ?_⟩
                simp only [hL, hHH, Option.getD_none, Option.map_some, add_none]
                cases hbq : Nat.beq c' L with
                | true =>
                  have := Nat.eq_of_beq_eq_true hbq; subst this
                  simp only [if_true]
                  exact .slice hs (by omega) (by omega) (.inl (by omega))
                | false =>
                  have := Nat.ne_of_beq_eq_false hbq
                  simp only [if_neg this, Nat.add_assoc]
                  exact .slice hs (by omega) (by omega) (.inl (by omega))
            | @sliceE _ _ pp c' s hs hmm hcc =>
              have hL0 : L = 0 := by omega
              have hH0 : HH = 0 := by omega
              subst hL0 hH0
              simp only at h
              cases hck : capKnown inf.size i H with
              | false => rw [hck] at h; cases h
              | true =>
              rw [hck] at h
              simp only [Option.some.injEq] at h
              have hb := run_sliceBounds' (P := P) w (n := 0) (c := c') el1 eh1 em1 (by omega) (by simp only [Option.getD_none]; omega) (by simp) c4'
              refine ⟨_, hrun _ (run_sliceAt' w ht hinf hb), ?_⟩
              simp only [hL, hHH, Option.getD_none, Option.map_some, add_none, Nat.zero_mul, Nat.add_zero, ite_self, Nat.sub_zero]
              subst h
              exact .sliceE hs hmm hcc
      · cases h
    · cases h
  · cases h
end Go.Proofs.YtdfadipfhcikdaaGreatDoor

namespace Go.Proofs.YtdfadipfhcikdaaGreatDoor
open Go.RowKit

theorem qval_bind (P : Program) {α γ : Type} (x : Sem α) (f : α → Sem γ) : qval P (x >>= f) = (qval P x).bind fun a => qval P (f a) := by
  show qval P (x.bind f) = _
  induction x with
  | pure a => rfl
  | program k ih => exact ih P
  | mark m k ih => exact ih
  | _ => rfl
theorem qval_pure (P : Program) {α : Type} (a : α) : qval P (pure a : Sem α) = some a := rfl

/-! ### a key is found -/
def SameKeys (es es' : List MapEntry) : Prop := es.length = es'.length ∧ ∀ (j : Nat) (e e' : MapEntry), es[j]? = some e → es'[j]? = some e' → e'.key = e.key
theorem SameKeys.tail {e e' : MapEntry} {es es' : List MapEntry} (h : SameKeys (e :: es) (e' :: es')) : e'.key = e.key ∧ SameKeys es es' :=
  ⟨h.2 0 e e' rfl rfl, by have := h.1; simpa using this, fun j x y hx hy => h.2 (j + 1) x y hx hy⟩
/-- the same place, in both lists -/
def SameFind (es es' : List MapEntry) (i : Nat) (r r' : Option (Nat × Value)) : Prop :=
  (r = none ∧ r' = none) ∨ ∃ (j : Nat) (e e' : MapEntry), es[j]? = some e ∧ es'[j]? = some e' ∧ r = some (i + j, e.val) ∧ r' = some (i + j, e'.val)
theorem SameFind.up {e e' : MapEntry} {es es' : List MapEntry} {i : Nat} {r r' : Option (Nat × Value)} (h : SameFind es es' (i + 1) r r') : SameFind (e :: es) (e' :: es') i r r' := by
  rcases h with h | ⟨j, x, y, h1, h2, h3, h4⟩
  · exact .inl h
  · exact .inr ⟨j + 1, x, y, h1, h2, by rw [h3]; congr 2; omega, by rw [h4]; congr 2; omega⟩
theorem findNow_same (kind : TypeDesc) (k : Value) : ∀ (es es' : List MapEntry) (i : Nat), SameKeys es es' → (Instr.findNow kind k es i = none ∧ Instr.findNow kind k es' i = none) ∨ ∃ r r', Instr.findNow kind k es i = some r ∧ Instr.findNow kind k es' i = some r' ∧ SameFind es es' i r r'
  | [], es', i, h => by
    cases es' with
    | nil => exact .inr ⟨none, none, rfl, rfl, .inl ⟨rfl, rfl⟩⟩
    | cons => have := h.1; simp at this
  | e :: es, es', i, h => by
    cases es' with
    | nil => have := h.1; simp at this
    | cons e' es' =>
      obtain ⟨hk, ht⟩ := h.tail
      simp only [Instr.findNow, hk]
      cases hs : Instr.sameNow kind k e.key with
      | none => exact .inl ⟨rfl, rfl⟩
      | some b =>
        cases b with
        | true => exact .inr ⟨_, _, rfl, rfl, .inr ⟨0, e, e', rfl, rfl, rfl, rfl⟩⟩
        | false =>
          rcases findNow_same kind k es es' (i + 1) ht with h1 | ⟨r, r', h1, h2, h3⟩
          · exact .inl h1
          · exact .inr ⟨r, r', h1, h2, h3.up⟩
theorem findAsking_same (P : Program) (t : TypeId) (k : Value) : ∀ (es es' : List MapEntry) (i : Nat) (r : Option (Nat × Value)), SameKeys es es' → qval P (Instr.findAsking t k es i) = some r → ∃ r', qval P (Instr.findAsking t k es' i) = some r' ∧ SameFind es es' i r r'
  | [], es', i, r, h, hr => by
    cases es' with
    | nil => simp only [Instr.findAsking, qval_pure, Option.some.injEq] at hr ⊢; subst hr; exact ⟨none, rfl, .inl ⟨rfl, rfl⟩⟩
    | cons => have := h.1; simp at this
  | e :: es, es', i, r, h, hr => by
    cases es' with
    | nil => have := h.1; simp at this
    | cons e' es' =>
      obtain ⟨hk, ht⟩ := h.tail
      simp only [Instr.findAsking, qval_bind, hk] at hr ⊢
      cases hq : qval P (Op.equal t k e.key) with
      | none => rw [hq] at hr; cases hr
      | some b =>
        rw [hq] at hr
        simp only [Option.bind_some] at hr ⊢
        cases b with
        | true =>
          simp only [if_true, qval_pure, Option.some.injEq] at hr ⊢
          subst hr
          exact ⟨_, rfl, .inr ⟨0, e, e', rfl, rfl, rfl, rfl⟩⟩
        | false =>
          simp only [Bool.false_eq_true, if_false] at hr ⊢
          obtain ⟨r', h1, h2⟩ := findAsking_same P t k es es' (i + 1) r ht hr
          exact ⟨r', h1, h2.up⟩
theorem qval_underlying {P : Program} {t : TypeId} {d : TypeDesc} (h : P.underlying t = some d) : qval P (underlying t) = some d := by
  simp only [underlying, qval_bind]
  show (some P).bind _ = _
  simp only [Option.bind_some, h]
  rfl
theorem findKey_same (P : Program) (t : TypeId) (k : Value) (es es' : List MapEntry) (r : Option (Nat × Value)) (h : SameKeys es es') (hr : qval P (Instr.findKey t k es) = some r) : ∃ r', qval P (Instr.findKey t k es') = some r' ∧ SameFind es es' 0 r r' := by
  simp only [Instr.findKey, qval_bind] at hr ⊢
  cases hq : qval P (underlying t) with
  | none => rw [hq] at hr; cases hr
  | some d =>
    rw [hq] at hr
    simp only [Option.bind_some] at hr ⊢
    rcases findNow_same d k es es' 0 h with ⟨h1, h2⟩ | ⟨a, a', h1, h2, h3⟩
    · rw [h1] at hr; rw [h2]
      exact findAsking_same P t k es es' 0 r h hr
    · rw [h1] at hr; rw [h2]
      simp only [qval_pure, Option.some.injEq] at hr ⊢
      subst hr
      exact ⟨a', rfl, h3⟩

/-- a map's entries by an abstract map value -/
def entriesOf (x : Value) (H : AHeap) : Option (List MapEntry) :=
  match x with
  | .map none => some []
  | .map (some i) => match H.get i with
    | some (.map es _) => some es
    | _ => none
  | _ => none
theorem run_getObj' {P : Program} {w : World} {r : Nat} {O : Obj} (h : w.heap[r]? = some O) (hc : ∀ c e f, O ≠ .cells c e f) : (getObj r).run P w = .ok O w := by
  simp only [getObj, Sem.run, h]
  try (cases O <;> first | rfl | exact absurd rfl (hc _ _ _))
theorem run_setObj' {P : Program} {w : World} {r : Nat} {O O' : Obj} (h : w.heap[r]? = some O) (hc : ∀ c e f, O ≠ .cells c e f) : (setObj r O').run P w = .ok () { w with heap := w.heap.setIfInBounds r O' } := by
  simp only [setObj, Sem.run, h]
  try (cases O <;> first | rfl | exact absurd rfl (hc _ _ _))
theorem entries_same {β : Ren} {es : List MapEntry} {es' : Array MapEntry} (hl : es'.size = es.length) (h : ∀ (j : Nat) (e e' : MapEntry), es[j]? = some e → es'[j]? = some e' → EntryRel β e e') : SameKeys es es'.toList :=
  ⟨by simpa using hl.symm, fun j e e' a b => (h j e e' a (by simpa using b)).2.1⟩

/-! ### look-up -/
def aLookup (P : Program) (t : TypeId) (x key : Value) (ok : Bool) (H : AHeap) : Option Value :=
  match P.underlying t with
  | some (.map kt el) => cond (flat2 key) (match entriesOf x H with
    | some es => match qval P (Instr.checkKey es.isEmpty 10000 kt key), qval P (Instr.findKey kt key es) with
      | some _, some (some (_, v)) => some (cond ok (.tuple #[v, .bool true]) v)
      | some _, some none => match P.info? el with
        | some inf => match inf.zero with
          | some z => cond (flat2 z) (some (cond ok (.tuple #[z, .bool false]) z)) none
          | none => none
        | none => none
      | _, _ => none
    | none => none) none
  | _ => none
theorem vr_pair {β : Ren} {v v' : Value} (h : VR β v v') (b : Bool) : VR β (.tuple #[v, .bool b]) (.tuple #[v', .bool b]) := by
  refine .tuple rfl fun j x y hx hy => ?_
  match j, hx, hy with
  | 0, hx, hy => simp at hx hy; subst hx hy; exact h
  | 1, hx, hy => simp at hx hy; subst hx hy; exact .bool b
  | j + 2, hx, _ => simp at hx
theorem fits_lookup {P : Program} {o : Oper} {ρ : Operand → Value} {t : TypeId} {x k : Operand} {ok : Bool} {v : Value} (ho : o.op = .lookup t x k ok) (fid : Nat) (H : AHeap) (h : aLookup P t (ρ x) (ρ k) ok H = some v) : Fits P o ρ fid H v H := by
  refine fits_value fid H fun β w ρ' hr hρ => ?_
  have hx := hρ x (by simp [ho, Op.operands])
  have hk := hρ k (by simp [ho, Op.operands])
  unfold aLookup at h
  split at h
  · rename_i kt el ht
    cases hf : flat2 (ρ k) with
    | false => rw [hf] at h; cases h
    | true =>
      rw [hf] at h
      simp only [cond] at h
      have ek : ρ' k = ρ k := (flat2_vr hf β).2 _ hk
      split at h
      · rename_i es hes
        -- the model's entries
        obtain ⟨es', hE, hsame, hrel⟩ : ∃ es' : Array MapEntry, ((ρ' x = .map none ∧ es' = #[]) ∨ ∃ r clock, ρ' x = .map (some r) ∧ w.heap[r]? = some (.map es' clock)) ∧ es'.size = es.length ∧ ∀ (j : Nat) (e e' : MapEntry), es[j]? = some e → es'[j]? = some e' → EntryRel β e e' := by
          unfold entriesOf at hes
          split at hes
          · rename_i hxx
            rw [hxx] at hx; generalize ρ' x = q at hx ⊢
            cases hx; cases hes
            exact ⟨#[], .inl ⟨rfl, rfl⟩, rfl, fun j e e' a => by simp at a⟩
          · rename_i i hxx
            rw [hxx] at hx; generalize ρ' x = q at hx ⊢
            split at hes
            · rename_i es2 clock hi
              cases hes
              cases hx with
              | map hs =>
                obtain ⟨_, _, es', h1, h2, h3⟩ := hr.obj _ _ _ hi hs
                exact ⟨es', .inr ⟨_, clock, rfl, h1⟩, h2, h3⟩
            · cases hes
          · cases hes
        have hsk := entries_same hsame hrel
        have hemp : es'.isEmpty = es.isEmpty := by
          cases es with
          | nil => have : es'.size = 0 := hsame; simp [Array.isEmpty, this]
          | cons a l => have : es'.size = l.length + 1 := hsame; simp [Array.isEmpty, this]
        split at h
        · rename_i u j v0 hck hfk
          obtain ⟨r', h1, h2⟩ := findKey_same P kt (ρ k) es es'.toList _ hsk hfk
          rcases h2 with ⟨h2, _⟩ | ⟨j0, e, e', a1, a2, a3, a4⟩
          · cases h2
          · simp only [Option.some.injEq, Prod.mk.injEq, Nat.zero_add] at a3
            obtain ⟨rfl, rfl⟩ := a3
            subst a4
            have hev := (hrel j e e' a1 (by simpa using a2)).2.2.2
            have hck' := qval_run P hck w
            have hfk' := qval_run P h1 w
            simp only [Option.some.injEq] at h
            refine ⟨cond ok (.tuple #[e'.val, .bool true]) e'.val, ?_, ?_⟩
            · rcases hE with ⟨hE, rfl⟩ | ⟨r, clock, hE, hh⟩
              · simp at a2
              · simp only [execOp, ho, Instr.lookup, Sem.run_bind, run_underlying' ht, Result.andThen_ok, hE, run_getObj' hh (by intro c e f hh; cases hh), Sem.run_pure, ek, hemp, hck', hfk']
                cases ok <;> rfl
            · subst h
              cases ok
              · exact hev
              · exact vr_pair hev true
        · rename_i u hck hfk
          obtain ⟨r', h1, h2⟩ := findKey_same P kt (ρ k) es es'.toList _ hsk hfk
          rcases h2 with ⟨_, h2⟩ | ⟨j0, e, e', a1, a2, a3, a4⟩
          · subst h2
            have hck' := qval_run P hck w
            have hfk' := qval_run P h1 w
            split at h
            · rename_i inf hinf
              split at h
              · rename_i z hz
                cases hfz : flat2 z with
                | false => rw [hfz] at h; cases h
                | true =>
                  rw [hfz] at h
                  simp only [Option.some.injEq] at h
                  refine ⟨cond ok (.tuple #[z, .bool false]) z, ?_, ?_⟩
                  · rcases hE with ⟨hE, rfl⟩ | ⟨r, clock, hE, hh⟩
                    · simp only [execOp, ho, Instr.lookup, Sem.run_bind, run_underlying' ht, Result.andThen_ok, hE, Sem.run_pure, ek, hemp, hck', hfk', run_zeroValue' hinf hz]
                      cases ok <;> rfl
                    · simp only [execOp, ho, Instr.lookup, Sem.run_bind, run_underlying' ht, Result.andThen_ok, hE, run_getObj' hh (by intro c e f hh; cases hh), Sem.run_pure, ek, hemp, hck', hfk', run_zeroValue' hinf hz]
                      cases ok <;> rfl
                  · subst h
                    cases ok
                    · exact (flat2_vr hfz β).1
                    · exact vr_pair (flat2_vr hfz β).1 false
              · cases h
            · cases h
          · cases a3
        · cases h
      · cases h
  · cases h

/-! ### a map is written -/
def aMapUpdate (P : Program) (t : TypeId) (x key v : Value) (H : AHeap) : Option AHeap :=
  match P.underlying t, x with
  | some (.map kt _), .map (some i) => cond (flat2 key) (match H.get i with
    | some (.map es clock) => match qval P (Instr.checkKey false 10000 kt key), qval P (Instr.findKey kt key es) with
      | some _, some (some (j, _)) => match es[j]? with
        | some e => cond (Instr.sameBits 10000 e.key key) (some (H.upd i (some (.map (es.set j { key := key, val := v, born := e.born }) clock)))) none
        | none => none
      | some _, some none => some (H.upd i (some (.map (es ++ [{ key := key, val := v, born := clock }]) (clock + 1))))
      | _, _ => none
    | _ => none) none
  | _, _ => none
theorem fits_mapUpdate {P : Program} {o : Oper} {ρ : Operand → Value} {t : TypeId} {x k y : Operand} {H' : AHeap} (ho : o.op = .mapUpdate t x k y ∨ o.op = .insert t x k y) (fid : Nat) (H : AHeap) (h : aMapUpdate P t (ρ x) (ρ k) (ρ y) H = some H') : Fits P o ρ fid H undef H' := by
  intro β w ρ' hr _ _ hρ
  have hx := hρ x (by rcases ho with ho | ho <;> simp [ho, Op.operands])
  have hk := hρ k (by rcases ho with ho | ho <;> simp [ho, Op.operands])
  have hy := hρ y (by rcases ho with ho | ho <;> simp [ho, Op.operands])
  have hrun : ∀ w', (Instr.mapUpdate t (ρ' x) (ρ' k) (ρ' y)).run P w = .ok () w' → (execOp ρ' o).run P w = .ok .skip w' := fun w' hw => by
    rcases ho with ho | ho <;> simp only [execOp, ho, Sem.run_bind, hw, Result.andThen_ok, Sem.run_pure]
  unfold aMapUpdate at h
  split at h
  · rename_i kt el i ht hxx
    cases hf : flat2 (ρ k) with
    | false => rw [hf] at h; cases h
    | true =>
      rw [hf] at h
      simp only [cond] at h
      have ek : ρ' k = ρ k := (flat2_vr hf β).2 _ hk
      split at h
      · rename_i es clock hi
        rw [hxx] at hx
        generalize hq : ρ' x = q at hx hrun
        cases hx with
        | @map _ s hs =>
          obtain ⟨hso, hbn, es', h1, h2, h3⟩ := hr.obj _ _ _ hi hs
          have hsk := entries_same h2 h3
          have hget := run_getObj' (P := P) h1 (by intro c e f hh; cases hh)
          have hset : ∀ O', (setObj s.blk O').run P w = .ok () { w with heap := w.heap.setIfInBounds s.blk O' } := fun O' => run_setObj' (P := P) h1 (by intro c e f hh; cases hh)
          split at h
          · rename_i u j v0 hck hfk
            obtain ⟨r', g1, g2⟩ := findKey_same P kt (ρ k) es es'.toList _ hsk hfk
            rcases g2 with ⟨g2, _⟩ | ⟨j0, e, e', a1, a2, a3, a4⟩
            · cases g2
            · simp only [Option.some.injEq, Prod.mk.injEq, Nat.zero_add] at a3
              obtain ⟨rfl, rfl⟩ := a3
              subst a4
              have hck' := qval_run P hck w
              have hfk' := qval_run P g1 w
              rw [a1] at h
              simp only at h
              have a2' : es'[j]? = some e' := by simpa using a2
              obtain ⟨q1, q2, q3, q4⟩ := h3 j e e' a1 a2'
              have hjl := (Array.getElem?_eq_some_iff.1 a2').1
              cases hsb : Instr.sameBits 10000 e.key (ρ k) with
              | false => rw [hsb] at h; cases h
              | true =>
                rw [hsb] at h
                simp only [Option.some.injEq] at h
                subst h
                have g := Goes.setObj hr hi hs hso (.map (es'.modify j fun e => { e with key := ρ k, val := ρ' y }) clock) (o' := .map (es.set j { key := ρ k, val := ρ y, born := e.born }) clock) (fun w' hw => ⟨hso, born_set hbn a1 _ _, _, hw, by simpa using h2, fun m x1 x2 b1 b2 => ?_⟩)
                · refine ⟨β, undef, _, ⟨.skip, hrun _ ?_, .inr ⟨rfl, rfl⟩⟩, vr_undef β, g, fun _ _ => rfl, rfl⟩
                  simp only [Instr.mapUpdate, Sem.run_bind, run_underlying' ht, Result.andThen_ok, hget, ek, hck', hfk', Nat.zero_add]
                  simp only [a2', Option.map_some, Option.getD_some, q2, Instr.keyThatStays, hsb, if_true, Sem.run_pure, Result.andThen_ok, hset]
                · rw [List.getElem?_set] at b1
                  rw [Array.getElem?_modify] at b2
                  by_cases e1 : j = m
                  · subst e1
                    rw [if_pos rfl] at b1 b2
                    rw [a2'] at b2
                    simp only [Option.map_some, Option.some.injEq] at b2
                    split at b1
                    · cases b1; subst b2
                      exact ⟨hf, rfl, q3, hy⟩
                    · cases b1
                  · rw [if_neg e1] at b1 b2
                    exact h3 m x1 x2 b1 b2
          · rename_i u hck hfk
            obtain ⟨r', g1, g2⟩ := findKey_same P kt (ρ k) es es'.toList _ hsk hfk
            rcases g2 with ⟨_, g2⟩ | ⟨j0, e, e', a1, a2, a3, a4⟩
            · subst g2
              have hck' := qval_run P hck w
              have hfk' := qval_run P g1 w
              simp only [Option.some.injEq] at h
              subst h
              have g := Goes.setObj hr hi hs hso (.map (es'.push { key := ρ k, val := ρ' y, born := clock }) (clock + 1)) (o' := .map (es ++ [{ key := ρ k, val := ρ y, born := clock }]) (clock + 1)) (fun w' hw => ⟨hso, born_push hbn _ _, _, hw, by simp [h2], fun m x1 x2 b1 b2 => ?_⟩)
              · refine ⟨β, undef, _, ⟨.skip, hrun _ ?_, .inr ⟨rfl, rfl⟩⟩, vr_undef β, g, fun _ _ => rfl, rfl⟩
                simp only [Instr.mapUpdate, Sem.run_bind, run_underlying' ht, Result.andThen_ok, hget, ek, hck', hfk', hset]
              · rw [Array.getElem?_push] at b2
                by_cases e1 : m = es'.size
                · rw [if_pos e1] at b2
                  rw [List.getElem?_append_right (by omega)] at b1
                  have : m - es.length = 0 := by omega
                  rw [this] at b1
                  cases b1; cases b2
                  exact ⟨hf, rfl, rfl, hy⟩
                · rw [if_neg e1] at b2
                  have hlt := (Array.getElem?_eq_some_iff.1 b2).1
                  rw [List.getElem?_append_left (by omega)] at b1
                  exact h3 m x1 x2 b1 b2
            · cases a3
          · cases h
      · cases h
  · cases h

theorem goes_newMap {β : Ren} {H : AHeap} {w : World} (hr : Rel β H w) {fid : Nat} (hf : β fid = none) (hn : fid < H.next) : Goes β H w (β.put fid ⟨w.heap.size, 0, 0, 0, true⟩) (H.add fid (.map [] 0)) (w.alloc (.map #[] 0)) :=
  Goes.alloc hr fid hf (.map #[] 0) (.map [] 0) ⟨w.heap.size, 0, 0, 0, true⟩ rfl rfl (fun _ _ _ => ⟨rfl, born_nil _, #[], heap_alloc_new w _, rfl, fun j e e' a => by simp at a⟩) H.next hn (Nat.le_refl _)
theorem fits_makeMap {P : Program} {o : Oper} {ρ : Operand → Value} {t : TypeId} (ho : o.op = .makeMap t none) (fid : Nat) (H : AHeap) : Fits P o ρ fid H (.map (some fid)) (H.add fid (.map [] 0)) := by
  intro β w ρ' hr hf hn _
  refine ⟨_, .map (some w.heap.size), _, ⟨_, ?_, .inl rfl⟩, .map (s := ⟨w.heap.size, 0, 0, 0, true⟩) (Ren.put_same ..), goes_newMap hr hf hn, put_other, rfl⟩
  simp [execOp, ho, Instr.makeMap]

/-! ### how long -/
def aLen (P : Program) (t : TypeId) (x : Value) (H : AHeap) : Option Value :=
  match P.underlying t, x with
  | some (.slice _), .slice _ n _ => some (.int .i64 n)
  | some (.map _ _), x => (entriesOf x H).map fun es => .int .i64 es.length
  | some (.array n _), _ => some (.int .i64 n)
  | _, _ => none
theorem fits_len {P : Program} {o : Oper} {ρ : Operand → Value} {t : TypeId} {x : Operand} {v : Value} (ho : o.op = .call { callee := .builtin .len, args := #[x], argTypes := #[t] }) (fid : Nat) (H : AHeap) (h : aLen P t (ρ x) H = some v) : Fits P o ρ fid H v H := by
  refine fits_value fid H fun β w ρ' hr hρ => ?_
  have hx := hρ x (by simp [ho, Op.operands, Call.operands])
  have hrun : ∀ v', (Builtin.len_ #[t] o.type #[ρ' x]).run P w = .ok v' w → (execOp ρ' o).run P w = .ok (.value v') w := fun v' he => by
    simp [execOp, ho, resolve, invoke, builtin, he]
  unfold aLen at h
  split at h
  · rename_i el a n c ht hxx
    cases h
    rw [hxx] at hx
    generalize hq : ρ' x = q at hx hrun
    refine ⟨.int .i64 n, hrun _ ?_, .int _ _⟩
    cases hx <;> simp [Builtin.len_, run_underlying' ht, goInt]
  · rename_i kt el x0 ht
    obtain ⟨es, hes, rfl⟩ := Option.map_eq_some_iff.1 h
    unfold entriesOf at hes
    split at hes
    · rename_i hxx
      cases hes
      rw [hxx] at hx
      generalize hq : ρ' x = q at hx hrun
      cases hx
      exact ⟨.int .i64 0, hrun _ (by simp [Builtin.len_, run_underlying' ht, goInt]), .int _ _⟩
    · rename_i i hxx
      split at hes
      · rename_i es2 clock hi
        cases hes
        rw [hxx] at hx
        generalize hq : ρ' x = q at hx hrun
        cases hx with
        | @map _ s hs =>
          obtain ⟨_, _, es', h1, h2, _⟩ := hr.obj _ _ _ hi hs
          have hget := run_getObj' (P := P) h1 (by intro c e f hh; cases hh)
          exact ⟨.int .i64 es.length, hrun _ (by simp [Builtin.len_, run_underlying' ht, hget, goInt, h2]), .int _ _⟩
      · cases hes
    · cases hes
  · rename_i x0 n el ht
    cases h
    exact ⟨.int .i64 n, hrun _ (by simp [Builtin.len_, run_underlying' ht, goInt]), .int _ _⟩
  · cases h

/-! ### against nil -/
def isNilV : Value → Option Bool
  | .pointer a => some a.isNone
  | .map a => some a.isNone
  | .slice a _ _ => some a.isNone
  | .nilFunc => some true
  | .func _ _ _ => some false
  | _ => none
def isNilConst : Value → Bool
  | .pointer none | .map none | .slice none _ _ | .nilFunc => true
  | _ => false
def kindFits : Option TypeDesc → Value → Bool
  | some (.pointer _), .pointer _ | some (.map _ _), .map _ | some (.slice _), .slice _ _ _ | some (.func _ _ _), .nilFunc | some (.func _ _ _), .func _ _ _ => true
  | _, _ => false
/-- an interface's value against nil -/
def aIfEq (P : Program) (op : BinOp) (t : TypeId) (x y : Value) : Option Value := match P.underlying t, x, y with
  | some (.interface _), .iface _ _, .nilIface | some (.interface _), .nilIface, .iface _ _ => match op with
    | .eql => some (.bool false)
    | .neq => some (.bool true)
    | _ => none
  | _, _, _ => none
def aNilEq0 (P : Program) (op : BinOp) (t : TypeId) (x y : Value) : Option Value :=
  cond (kindFits (P.underlying t) x && (kindFits (P.underlying t) y && (isNilConst x || isNilConst y))) (match isNilV x, isNilV y with
    | some a, some b => match op with
      | .eql => some (.bool (a && b))
      | .neq => some (.bool (!(a && b)))
      | _ => none
    | _, _ => none) none
/-- a bounded number that is not told: `.float .f64 n` stands for tot - n % 2^20, where lo = n / 2^20 % 2^20 <= tot <= hi = n / 2^40; it is below k, above k -/
def wBelow (n k : Nat) : Option Bool := cond (Nat.blt (n / 1099511627776) (k + n % 1048576)) (some true) (cond (Nat.ble (k + n % 1048576) (n / 1048576 % 1048576)) (some false) none)
def wAbove (n k : Nat) : Option Bool := cond (Nat.blt (k + n % 1048576) (n / 1048576 % 1048576)) (some true) (cond (Nat.ble (n / 1099511627776) (k + n % 1048576)) (some false) none)
def aWide (op : BinOp) : Value → Value → Option Value
  | .float .f64 n, .int .i64 (.ofNat k) => match op with
    | .add => cond (Nat.ble k (n % 1048576)) (some (.float .f64 (n - k))) none
    | .sub => cond (Nat.blt (n % 1048576 + k) 1048576) (some (.float .f64 (n + k))) none
    | .lss => (wBelow n k).map .bool
    | .gtr => (wAbove n k).map .bool
    | _ => none
  | .int .i64 (.ofNat k), .float .f64 n => match op with
    | .gtr => (wBelow n k).map .bool
    | .lss => (wAbove n k).map .bool
    | _ => none
  | _, _ => none
def aNilEq (P : Program) (op : BinOp) (t : TypeId) (x y : Value) : Option Value := match aNilEq0 P op t x y with
  | some v => some v
  | none => match aIfEq P op t x y with
    | some v => some v
    | none => aWide op x y
theorem isNil_vr {β : Ren} {v v' : Value} (h : VR β v v') : isNilV v' = isNilV v ∧ isNilConst v' = isNilConst v ∧ ∀ d, kindFits d v' = kindFits d v := by
  cases h <;> refine ⟨rfl, rfl, fun d => ?_⟩ <;> (cases d <;> first | rfl | (rename_i d; cases d <;> rfl))
theorem run_nilEqIn {P : Program} (d0 : Nat) {t : TypeId} {x y : Value} {a b : Bool} (hx : kindFits (P.underlying t) x = true) (hy : kindFits (P.underlying t) y = true) (hn : (isNilConst x || isNilConst y) = true) (ha : isNilV x = some a) (hb : isNilV y = some b) (w : World) :
    (Op.equalIn (d0 + 1) t x y).run P w = .ok (a && b) w := by
  cases hd : P.underlying t with
  | none => rw [hd] at hx; cases x <;> cases hx
  | some d =>
    rw [hd] at hx hy
    have hd' := run_underlying' hd w
    cases d <;> cases x <;> first
      | (cases hx; done)
      | (cases y <;> first
          | (cases hy; done)
          | (simp only [isNilV, Option.some.injEq] at ha hb
             subst ha hb
             simp only [Op.equalIn, Sem.run_bind, hd', Result.andThen_ok]
             first
               | rfl
               | (rename_i p q; cases p <;> cases q <;> first | rfl | (simp [isNilConst] at hn; done))
               | (rename_i p _ _ q _ _; cases p <;> cases q <;> first | rfl | (simp [isNilConst] at hn; done))
               | (simp [isNilConst] at hn; done)))
theorem run_nilEq {P : Program} {t : TypeId} {x y : Value} {a b : Bool} (hx : kindFits (P.underlying t) x = true) (hy : kindFits (P.underlying t) y = true) (hn : (isNilConst x || isNilConst y) = true) (ha : isNilV x = some a) (hb : isNilV y = some b) (w : World) :
    (Op.equal t x y).run P w = .ok (a && b) w := run_nilEqIn 9999 hx hy hn ha hb w
theorem fits_nilEq0 {P : Program} {o : Oper} {ρ : Operand → Value} {op : BinOp} {t u : TypeId} {x y : Operand} {v : Value} (ho : o.op = .binOp op t x y u) (fid : Nat) (H : AHeap) (h : aNilEq0 P op t (ρ x) (ρ y) = some v) : Fits P o ρ fid H v H := by
  refine fits_value fid H fun β w ρ' hr hρ => ?_
  have hx := isNil_vr (hρ x (by simp [ho, Op.operands]))
  have hy := isNil_vr (hρ y (by simp [ho, Op.operands]))
  unfold aNilEq0 at h
  cases hc : (kindFits (P.underlying t) (ρ x) && (kindFits (P.underlying t) (ρ y) && (isNilConst (ρ x) || isNilConst (ρ y)))) with
  | false => rw [hc] at h; cases h
  | true =>
    rw [hc] at h
    simp only [cond] at h
    simp only [Bool.and_eq_true] at hc
    obtain ⟨c1, c2, c3⟩ := hc
    split at h
    · rename_i a b ha hb
      have he := run_nilEq (P := P) (t := t) (x := ρ' x) (y := ρ' y) (a := a) (b := b) (by rw [hx.2.2]; exact c1) (by rw [hy.2.2]; exact c2) (by rw [hx.2.1, hy.2.1]; exact c3) (by rw [hx.1]; exact ha) (by rw [hy.1]; exact hb) w
      have k1 : kindFits (P.underlying t) (ρ' x) = true := by rw [hx.2.2]; exact c1
      have k2 : kindFits (P.underlying t) (ρ' y) = true := by rw [hy.2.2]; exact c2
      have hg : ∀ op, (eqGuard op t x y (ρ' x) (ρ' y)).run P w = .ok () w := fun op => by
        generalize ρ' x = X at k1; generalize ρ' y = Y at k2
        cases hd : P.underlying t with
        | none => rw [hd] at k1; cases X <;> cases k1
        | some d =>
          rw [hd] at k1 k2
          cases d <;> cases X <;> first
            | (cases k1; done)
            | (cases Y <;> first | (cases k2; done) | (cases op <;> rfl))
      split at h
      · cases h
        refine ⟨.bool (a && b), ?_, .bool _⟩
        simp only [execOp, ho, Sem.run_bind, hg, Result.andThen_ok]
        have hbin : (binOp .eql t (ρ' x) (ρ' y)) = (do pure (.bool (← Op.equal t (ρ' x) (ρ' y)))) := by
          generalize ρ' x = X at k1; generalize ρ' y = Y at k2
          cases hd : P.underlying t with
          | none => rw [hd] at k1; cases X <;> cases k1
          | some d => rw [hd] at k1 k2; cases d <;> cases X <;> first | (cases k1; done) | (cases Y <;> first | (cases k2; done) | rfl)
        rw [hbin]
        simp only [Sem.run_bind, he, Result.andThen_ok, Sem.run_pure]
      · cases h
        refine ⟨.bool (!(a && b)), ?_, .bool _⟩
        simp only [execOp, ho, Sem.run_bind, hg, Result.andThen_ok]
        have hbin : (binOp .neq t (ρ' x) (ρ' y)) = (do pure (.bool (!(← Op.equal t (ρ' x) (ρ' y))))) := by
          generalize ρ' x = X at k1; generalize ρ' y = Y at k2
          cases hd : P.underlying t with
          | none => rw [hd] at k1; cases X <;> cases k1
          | some d => rw [hd] at k1 k2; cases d <;> cases X <;> first | (cases k1; done) | (cases Y <;> first | (cases k2; done) | rfl)
        rw [hbin]
        simp only [Sem.run_bind, he, Result.andThen_ok, Sem.run_pure]
      · cases h
    · cases h
theorem fits_ifEq {P : Program} {o : Oper} {ρ : Operand → Value} {op : BinOp} {t u : TypeId} {x y : Operand} {v : Value} (ho : o.op = .binOp op t x y u) (fid : Nat) (H : AHeap) (h : aIfEq P op t (ρ x) (ρ y) = some v) : Fits P o ρ fid H v H := by
  refine fits_value fid H fun β w ρ' hr hρ => ?_
  have hx := hρ x (by simp [ho, Op.operands])
  have hy := hρ y (by simp [ho, Op.operands])
  unfold aIfEq at h
  have key : ∀ (X Y : Value) (ms : Array (String × TypeId)), P.underlying t = some (.interface ms) → ρ' x = X → ρ' y = Y → (∀ op, (eqGuard op t x y X Y).run P w = .ok () w) → (∀ d, (Op.equalIn (d + 1) t X Y).run P w = .ok false w) →
      (binOp .eql t X Y = (do pure (.bool (← Op.equal t X Y)))) → (binOp .neq t X Y = (do pure (.bool (!(← Op.equal t X Y))))) →
      ((op = .eql ∧ v = .bool false) ∨ (op = .neq ∧ v = .bool true)) → ∃ v', (execOp ρ' o).run P w = .ok (.value v') w ∧ VR β v v' := by
    intro X Y ms hu h1 h2 hg he hb1 hb2 hop
    have he' : (Op.equal t X Y).run P w = .ok false w := he 9999
    rcases hop with ⟨rfl, rfl⟩ | ⟨rfl, rfl⟩
    · refine ⟨.bool false, ?_, .bool _⟩
      simp only [execOp, ho, Sem.run_bind, h1, h2, hg, Result.andThen_ok, hb1, he', Sem.run_pure]
    · refine ⟨.bool true, ?_, .bool _⟩
      simp only [execOp, ho, Sem.run_bind, h1, h2, hg, Result.andThen_ok, hb2, he', Sem.run_pure]; rfl
  split at h
  · rename_i ms tx vx hu e1 e2
    rw [e1] at hx; rw [e2] at hy
    generalize hX : ρ' x = X at hx; generalize hY : ρ' y = Y at hy
    cases hx; cases hy
    exact key _ _ ms hu hX hY (fun op => by cases op <;> rfl) (fun d => by simp only [Op.equalIn, Sem.run_bind, run_underlying' hu w, Result.andThen_ok]; rfl) rfl rfl (by cases op <;> first | (cases h; done) | (cases h; exact .inl ⟨rfl, rfl⟩) | (cases h; exact .inr ⟨rfl, rfl⟩))
  · rename_i ms tx vx hu e1 e2
    rw [e1] at hx; rw [e2] at hy
    generalize hX : ρ' x = X at hx; generalize hY : ρ' y = Y at hy
    cases hx; cases hy
    exact key _ _ ms hu hX hY (fun op => by cases op <;> rfl) (fun d => by simp only [Op.equalIn, Sem.run_bind, run_underlying' hu w, Result.andThen_ok]; rfl) rfl rfl (by cases op <;> first | (cases h; done) | (cases h; exact .inl ⟨rfl, rfl⟩) | (cases h; exact .inr ⟨rfl, rfl⟩))
  · cases h
theorem below_ok {n k : Nat} {s : Spot} {b : Bool} (h1 : n / 1048576 % 1048576 ≤ s.tot) (h2 : s.tot ≤ n / 1099511627776) (h : wBelow n k = some b) : decide ((s.tot : Int) - (n % 1048576 : Nat) < Int.ofNat k) = b := by
  unfold wBelow at h
  cases h3 : Nat.blt (n / 1099511627776) (k + n % 1048576) with
  | true => rw [h3] at h; cases h; rw [Nat.blt_eq] at h3; exact decide_eq_true (by simp only [Int.ofNat_eq_natCast]; omega)
  | false =>
    rw [h3] at h
    cases h4 : Nat.ble (k + n % 1048576) (n / 1048576 % 1048576) with
    | true => rw [h4] at h; cases h; rw [Nat.ble_eq] at h4; exact decide_eq_false (by simp only [Int.ofNat_eq_natCast]; omega)
    | false => rw [h4] at h; cases h
theorem above_ok {n k : Nat} {s : Spot} {b : Bool} (h1 : n / 1048576 % 1048576 ≤ s.tot) (h2 : s.tot ≤ n / 1099511627776) (h : wAbove n k = some b) : decide (Int.ofNat k < (s.tot : Int) - (n % 1048576 : Nat)) = b := by
  unfold wAbove at h
  cases h3 : Nat.blt (k + n % 1048576) (n / 1048576 % 1048576) with
  | true => rw [h3] at h; cases h; rw [Nat.blt_eq] at h3; exact decide_eq_true (by simp only [Int.ofNat_eq_natCast]; omega)
  | false =>
    rw [h3] at h
    cases h4 : Nat.ble (n / 1099511627776) (k + n % 1048576) with
    | true => rw [h4] at h; cases h; rw [Nat.ble_eq] at h4; exact decide_eq_false (by simp only [Int.ofNat_eq_natCast]; omega)
    | false => rw [h4] at h; cases h
theorem wrap_in {x : Int} (h1 : -1048576 ≤ x) (h2 : x ≤ 2097152) : IntKind.i64.wrap x = x := by
  rw [IntKind.wrap_i64]; omega
theorem fits_wide {P : Program} {o : Oper} {ρ : Operand → Value} {op : BinOp} {t u : TypeId} {x y : Operand} {v : Value} (ho : o.op = .binOp op t x y u) (fid : Nat) (H : AHeap) (h : aWide op (ρ x) (ρ y) = some v) : Fits P o ρ fid H v H := by
  refine fits_value fid H fun β w ρ' hr hρ => ?_
  have hx := hρ x (by simp [ho, Op.operands])
  have hy := hρ y (by simp [ho, Op.operands])
  generalize hX : ρ x = X at h hx
  generalize hY : ρ y = Y at h hy
  generalize hX' : ρ' x = X' at hx
  generalize hY' : ρ' y = Y' at hy
  unfold aWide at h
  split at h
  · rename_i n k
    cases hy
    cases hx with
    | @wide _ s h0 h1 h2 h3 =>
    split at h
    · cases hc : Nat.ble k (n % 1048576) with
      | false => rw [hc] at h; cases h
      | true =>
        rw [hc] at h; cases h
        rw [Nat.ble_eq] at hc
        refine ⟨.int .i64 ((s.tot : Int) - ((n - k) % 1048576 : Nat)), ?_, .wide h0 (by omega) (by omega) (by omega)⟩
        have e : (s.tot : Int) - ((n - k) % 1048576 : Nat) = IntKind.i64.wrap ((s.tot : Int) - (n % 1048576 : Nat) + Int.ofNat k) := by rw [wrap_in (by simp only [Int.ofNat_eq_natCast]; omega) (by simp only [Int.ofNat_eq_natCast]; omega)]; simp only [Int.ofNat_eq_natCast]; omega
        rw [e]; simp only [execOp, ho, hX', hY', eqGuard, binOp, Op.intArith]; rfl
    · cases hc : Nat.blt (n % 1048576 + k) 1048576 with
      | false => rw [hc] at h; cases h
      | true =>
        rw [hc] at h; cases h
        rw [Nat.blt_eq] at hc
        refine ⟨.int .i64 ((s.tot : Int) - ((n + k) % 1048576 : Nat)), ?_, .wide h0 (by omega) (by omega) (by omega)⟩
        have e : (s.tot : Int) - ((n + k) % 1048576 : Nat) = IntKind.i64.wrap ((s.tot : Int) - (n % 1048576 : Nat) - Int.ofNat k) := by rw [wrap_in (by simp only [Int.ofNat_eq_natCast]; omega) (by simp only [Int.ofNat_eq_natCast]; omega)]; simp only [Int.ofNat_eq_natCast]; omega
        rw [e]; simp only [execOp, ho, hX', hY', eqGuard, binOp, Op.intArith]; rfl
    · obtain ⟨b, hb, rfl⟩ := Option.map_eq_some_iff.1 h
      refine ⟨.bool b, ?_, .bool _⟩
      rw [← below_ok h1 h2 hb]; simp only [execOp, ho, hX', hY', eqGuard, binOp, Op.intCmp]; rfl
    · obtain ⟨b, hb, rfl⟩ := Option.map_eq_some_iff.1 h
      refine ⟨.bool b, ?_, .bool _⟩
      rw [← above_ok h1 h2 hb]; simp only [execOp, ho, hX', hY', eqGuard, binOp, Op.intCmp]; rfl
    · cases h
  · rename_i k n
    cases hx
    cases hy with
    | @wide _ s h0 h1 h2 h3 =>
    split at h
    · obtain ⟨b, hb, rfl⟩ := Option.map_eq_some_iff.1 h
      refine ⟨.bool b, ?_, .bool _⟩
      rw [← below_ok h1 h2 hb]; simp only [execOp, ho, hX', hY', eqGuard, binOp, Op.intCmp]; rfl
    · obtain ⟨b, hb, rfl⟩ := Option.map_eq_some_iff.1 h
      refine ⟨.bool b, ?_, .bool _⟩
      rw [← above_ok h1 h2 hb]; simp only [execOp, ho, hX', hY', eqGuard, binOp, Op.intCmp]; rfl
    · cases h
  · cases h
theorem fits_nilEq {P : Program} {o : Oper} {ρ : Operand → Value} {op : BinOp} {t u : TypeId} {x y : Operand} {v : Value} (ho : o.op = .binOp op t x y u) (fid : Nat) (H : AHeap) (h : aNilEq P op t (ρ x) (ρ y) = some v) : Fits P o ρ fid H v H := by
  unfold aNilEq at h
  split at h
  · rename_i v' h'
    cases h
    exact fits_nilEq0 ho fid H h'
  · split at h
    · rename_i v' h'
      cases h
      exact fits_ifEq ho fid H h'
    · exact fits_wide ho fid H h
end Go.Proofs.YtdfadipfhcikdaaGreatDoor

namespace Go.Proofs.YtdfadipfhcikdaaGreatDoor
open Go.RowKit

/-! ### delete -/
def aDelete (P : Program) (t : TypeId) (x key : Value) (H : AHeap) : Option AHeap :=
  match P.underlying t with
  | some (.map kt _) => cond (flat2 key) (match x with
    | .map none => match qval P (Instr.checkKey true 10000 kt key) with
      | some _ => some H
      | none => none
    | .map (some i) => match H.get i with
      | some (.map es clock) => match qval P (Instr.checkKey es.isEmpty 10000 kt key), qval P (Instr.findKey kt key es) with
        | some _, some (some (j, _)) => some (H.upd i (some (.map (es.eraseIdx j) clock)))
        | some _, some none => some (H.upd i (some (.map es clock)))
        | _, _ => none
      | _ => none
    | _ => none) none
  | _ => none
theorem empty_same {es : List MapEntry} {es' : Array MapEntry} (h : es'.size = es.length) : es'.isEmpty = es.isEmpty := by
  cases es with
  | nil => have : es'.size = 0 := h; simp [Array.isEmpty, this]
  | cons a l => have : es'.size = l.length + 1 := h; simp [Array.isEmpty, this]
theorem fits_delete {P : Program} {o : Oper} {ρ : Operand → Value} {t u : TypeId} {x k : Operand} {H' : AHeap} (ho : o.op = .call { callee := .builtin .delete, args := #[x, k], argTypes := #[t, u] }) (fid : Nat) (H : AHeap) (h : aDelete P t (ρ x) (ρ k) H = some H') : Fits P o ρ fid H undef H' := by
  intro β w ρ' hr _ _ hρ
  have hx := hρ x (by simp [ho, Op.operands, Call.operands])
  have hk := hρ k (by simp [ho, Op.operands, Call.operands])
  have hrun : ∀ w', (Builtin.delete_ #[t, u] o.type #[ρ' x, ρ' k]).run P w = .ok (.tuple #[]) w' → (execOp ρ' o).run P w = .ok (.value undef) w' := fun w' he => by
    simp [execOp, ho, resolve, invoke, builtin, he, undef]
  unfold aDelete at h
  split at h
  · rename_i kt el ht
    cases hf : flat2 (ρ k) with
    | false => rw [hf] at h; cases h
    | true =>
      rw [hf] at h
      simp only [cond] at h
      have ek : ρ' k = ρ k := (flat2_vr hf β).2 _ hk
      split at h
      · rename_i hxx
        rw [hxx] at hx
        generalize hq : ρ' x = q at hx hrun
        cases hx
        split at h
        · rename_i u0 hck
          cases h
          have hck' := qval_run P hck w
          refine ⟨β, undef, w, ⟨_, hrun _ ?_, .inl rfl⟩, vr_undef β, .refl hr, fun _ _ => rfl, rfl⟩
          simp [Builtin.delete_, run_underlying' ht, ek, hck']
        · cases h
      · rename_i i hxx
        split at h
        · rename_i es clock hi
          rw [hxx] at hx
          generalize hq : ρ' x = q at hx hrun
          cases hx with
          | @map _ s hs =>
            obtain ⟨hso, hbn, es', h1, h2, h3⟩ := hr.obj _ _ _ hi hs
            have hsk := entries_same h2 h3
            have hemp := empty_same h2
            have hget := run_getObj' (P := P) h1 (by intro c e f hh; cases hh)
            have hset : ∀ O', (setObj s.blk O').run P w = .ok () { w with heap := w.heap.setIfInBounds s.blk O' } := fun O' => run_setObj' (P := P) h1 (by intro c e f hh; cases hh)
            split at h
            · rename_i u0 j v0 hck hfk
              obtain ⟨r', g1, g2⟩ := findKey_same P kt (ρ k) es es'.toList _ hsk hfk
              rcases g2 with ⟨g2, _⟩ | ⟨j0, e, e', a1, a2, a3, a4⟩
              · cases g2
              · simp only [Option.some.injEq, Prod.mk.injEq, Nat.zero_add] at a3
                obtain ⟨rfl, rfl⟩ := a3
                subst a4
                have hck' := qval_run P hck w
                have hfk' := qval_run P g1 w
                simp only [Option.some.injEq] at h
                subst h
                have hjl : j < es.length := (List.getElem?_eq_some_iff.1 a1).1
                have g := Goes.setObj hr hi hs hso (.map (es'.eraseIdxIfInBounds j) clock) (o' := .map (es.eraseIdx j) clock) (fun w' hw => ⟨hso, born_erase hbn _, _, hw, by
                  simp [Array.eraseIdxIfInBounds, show j < es'.size by omega, List.length_eraseIdx, hjl, h2], fun m x1 x2 b1 b2 => by
                  have b3 : (es'.toList.eraseIdx j)[m]? = some x2 := by
                    have : (es'.eraseIdxIfInBounds j).toList = es'.toList.eraseIdx j := by simp [Array.eraseIdxIfInBounds, show j < es'.size by omega]
                    rw [← this, Array.getElem?_toList]; exact b2
                  rw [List.getElem?_eraseIdx] at b1 b3
                  by_cases e1 : m < j
                  · rw [if_pos e1] at b1 b3; exact h3 m x1 x2 b1 (by simpa using b3)
                  · rw [if_neg e1] at b1 b3; exact h3 (m + 1) x1 x2 b1 (by simpa using b3)⟩)
                refine ⟨β, undef, _, ⟨_, hrun _ ?_, .inl rfl⟩, vr_undef β, g, fun _ _ => rfl, rfl⟩
                simp only [Builtin.delete_, Sem.run_bind, run_underlying' ht, Result.andThen_ok, hget, ek, hemp, hck', hfk', Nat.zero_add, hset, Sem.run_pure, List.getElem?_toArray, List.getElem?_cons_zero, List.getElem?_cons_succ]
            · rename_i u0 hck hfk
              obtain ⟨r', g1, g2⟩ := findKey_same P kt (ρ k) es es'.toList _ hsk hfk
              rcases g2 with ⟨_, g2⟩ | ⟨j0, e, e', a1, a2, a3, a4⟩
              · subst g2
                have hck' := qval_run P hck w
                have hfk' := qval_run P g1 w
                simp only [Option.some.injEq] at h
                subst h
                have g := Goes.setObj hr hi hs hso (.map es' clock) (o' := .map es clock) (fun w' hw => ⟨hso, hbn, _, hw, h2, h3⟩)
                refine ⟨β, undef, _, ⟨_, hrun _ ?_, .inl rfl⟩, vr_undef β, g, fun _ _ => rfl, rfl⟩
                simp only [Builtin.delete_, Sem.run_bind, run_underlying' ht, Result.andThen_ok, hget, ek, hemp, hck', hfk', hset, Sem.run_pure, List.getElem?_toArray, List.getElem?_cons_zero, List.getElem?_cons_succ]
              · cases a3
            · cases h
        · cases h
      · cases h
  · cases h

/-! ### clear -/
def aClear (P : Program) (t : TypeId) (x : Value) (H : AHeap) : Option AHeap :=
  match x with
  | .map none => some H
  | .slice none _ _ => some H
  | .slice _ 0 _ => some H
  | .map (some i) => match H.get i with
    | some (.map _ clock) => some (H.upd i (some (.map [] clock)))
    | _ => none
  | .slice (some ⟨i, o, none⟩) (n + 1) _ => match P.underlying t with
    | some (.slice el) => match P.info? el, H.get i with
      | some inf, some (.row cells elem esz true) => match inf.zero with
        | some z => cond (flat2 z) (aStoreCells i elem esz H cells o (Builtin.zeroCells z.cells (n + 1)).toList) none
        | none => none
      | _, _ => none
    | _ => none
  | _ => none
theorem fits_clear {P : Program} {o : Oper} {ρ : Operand → Value} {t : TypeId} {d : TypeDesc} {x : Operand} {H' : AHeap} (ho : o.op = .call { callee := .builtin .clear, args := #[x], argTypes := #[t] }) (hd : P.underlying t = some d) (fid : Nat) (H : AHeap) (h : aClear P t (ρ x) H = some H') : Fits P o ρ fid H undef H' := by
  intro β w ρ' hr _ _ hρ
  have hx := hρ x (by simp [ho, Op.operands, Call.operands])
  have hrun : ∀ w', (Builtin.clear_ #[t] o.type #[ρ' x]).run P w = .ok (.tuple #[]) w' → (execOp ρ' o).run P w = .ok (.value undef) w' := fun w' he => by
    simp [execOp, ho, resolve, invoke, builtin, he, undef]
  have same : (Builtin.clear_ #[t] o.type #[ρ' x]).run P w = .ok (.tuple #[]) w → H = H' → ∃ β' v' w', (∃ n, (execOp ρ' o).run P w = .ok n w' ∧ (n = .value v' ∨ n = .skip ∧ v' = undef)) ∧ VR β' undef v' ∧ Goes β H w β' H' w' ∧ (∀ i, i ≠ fid → β' i = β i) ∧ H'.next = H.next := fun he e => by
    subst e
    exact ⟨β, undef, w, ⟨_, hrun _ he, .inl rfl⟩, vr_undef β, .refl hr, fun _ _ => rfl, rfl⟩
  unfold aClear at h
  split at h
  · rename_i hxx
    rw [hxx] at hx; generalize ρ' x = q at hx hrun same
    cases hx; cases h
    exact same (by simp [Builtin.clear_, run_underlying' hd]) rfl
  · rename_i n c hxx
    rw [hxx] at hx; generalize ρ' x = q at hx hrun same
    cases hx; cases h
    exact same (by simp [Builtin.clear_, run_underlying' hd]) rfl
  · rename_i a c hxx
    rw [hxx] at hx; generalize ρ' x = q at hx hrun same
    cases h
    cases hx <;> exact same (by simp [Builtin.clear_, run_underlying' hd]) rfl
  · rename_i i hxx
    split at h
    · rename_i es clock hi
      cases h
      rw [hxx] at hx; generalize ρ' x = q at hx hrun same
      cases hx with
      | @map _ s hs =>
        obtain ⟨hso, hbn, es', h1, h2, h3⟩ := hr.obj _ _ _ hi hs
        have hget := run_getObj' (P := P) h1 (by intro c e f hh; cases hh)
        have hset : ∀ O', (setObj s.blk O').run P w = .ok () { w with heap := w.heap.setIfInBounds s.blk O' } := fun O' => run_setObj' (P := P) h1 (by intro c e f hh; cases hh)
        have g := Goes.setObj hr hi hs hso (.map #[] clock) (o' := .map [] clock) (fun w' hw => ⟨hso, born_nil _, _, hw, rfl, fun j e e' a => by simp at a⟩)
        refine ⟨β, undef, _, ⟨_, hrun _ ?_, .inl rfl⟩, vr_undef β, g, fun _ _ => rfl, rfl⟩
        simp only [Builtin.clear_, Sem.run_bind, run_underlying' hd, Result.andThen_ok, hget, hset, Sem.run_pure, List.getElem?_toArray, List.getElem?_cons_zero]
    · cases h
  · rename_i i p n c hxx
    split at h
    · rename_i el ht
      split at h
      · rename_i inf cells elem esz hinf hi
        split at h
        · rename_i z hz
          cases hfz : flat2 z with
          | false => rw [hfz] at h; cases h
          | true =>
            rw [hfz] at h
            simp only [cond] at h
            rw [hxx] at hx; generalize ρ' x = q at hx hrun same
            cases hx with
            | @slice _ _ _ _ c' s hs hn hm hc =>
              have hv := arrvr_map (flat_arr (β := β) hfz) ((n + 1) * z.cells.size)
              obtain ⟨w', b1, b2, b3, _⟩ := storeCells_goes (P := P) hs (p := p) (Builtin.zeroCells z.cells (n + 1)).toList (Builtin.zeroCells z.cells (n + 1)).toList H H' w cells p 0 hr hi rfl rfl (fun j x y a b => hv.2 j x y (by rw [← Array.getElem?_toList]; exact a) (by rw [← Array.getElem?_toList]; exact b)) h
              refine ⟨β, undef, w', ⟨_, hrun _ ?_, .inl rfl⟩, vr_undef β, b2, fun _ _ => rfl, b3⟩
              simp only [Builtin.clear_, Sem.run_bind, run_underlying' ht, Result.andThen_ok, run_zeroValue' hinf hz, b1, Sem.run_pure, List.getElem?_toArray, List.getElem?_cons_zero]
        · cases h
      · cases h
    · cases h
  · cases h

/-! ### copy -/
def aCopy (P : Program) (t : TypeId) (x y : Value) (H : AHeap) : Option (Value × AHeap) :=
  match P.underlying t with
  | some (.slice el) => match P.info? el with
    | some inf => match x, y with
      | .slice none 0 0, .slice none 0 0 => some (.int .i64 0, H)
      | .slice none 0 0, .slice (some _) _ _ => some (.int .i64 0, H)
      | .slice (some _) _ _, .slice none 0 0 => some (.int .i64 0, H)
      | .slice (some ⟨i, o, none⟩) n _, .slice (some ⟨j, p, none⟩) m _ => cond (Nat.beq (Nat.min m n) 0) (some (.int .i64 0, H)) (match H.get i, H.get j with
        | some (.row cells elem esz true), some (.row src _ _ _) => match cut src p (Nat.min m n * inf.size) with
          | some l => (aStoreCells i elem esz H cells o l).map fun H' => (.int .i64 (Nat.min m n), H')
          | none => none
        | _, _ => none)
      | _, _ => none
    | none => none
  | _ => none
theorem fits_copy {P : Program} {o : Oper} {ρ : Operand → Value} {t u : TypeId} {x y : Operand} {v : Value} {H' : AHeap} (ho : o.op = .call { callee := .builtin .copy, args := #[x, y], argTypes := #[t, u] }) (fid : Nat) (H : AHeap) (h : aCopy P t (ρ x) (ρ y) H = some (v, H')) : Fits P o ρ fid H v H' := by
  intro β w ρ' hr _ _ hρ
  have hx := hρ x (by simp [ho, Op.operands, Call.operands])
  have hy := hρ y (by simp [ho, Op.operands, Call.operands])
  have hrun : ∀ v' w', (Builtin.copy_ #[t, u] o.type #[ρ' x, ρ' y]).run P w = .ok v' w' → (execOp ρ' o).run P w = .ok (.value v') w' := fun v' w' he => by
    simp [execOp, ho, resolve, invoke, builtin, he]
  have same : (Builtin.copy_ #[t, u] o.type #[ρ' x, ρ' y]).run P w = .ok (.int .i64 0) w → ((.int .i64 0, H) : Value × AHeap) = (v, H') → ∃ β' v' w', (∃ n, (execOp ρ' o).run P w = .ok n w' ∧ (n = .value v' ∨ n = .skip ∧ v' = undef)) ∧ VR β' v v' ∧ Goes β H w β' H' w' ∧ (∀ i, i ≠ fid → β' i = β i) ∧ H'.next = H.next := fun he e => by
    cases e
    exact ⟨β, .int .i64 0, w, ⟨_, hrun _ _ he, .inl rfl⟩, .int _ _, .refl hr, fun _ _ => rfl, rfl⟩
  unfold aCopy at h
  split at h
  · rename_i el ht
    split at h
    · rename_i inf hinf
      split at h
      · rename_i hxx hyy
        rw [hxx] at hx; rw [hyy] at hy
        generalize ρ' x = q at hx hrun same; generalize ρ' y = r at hy hrun same
        cases hx; cases hy
        exact same (by simp [Builtin.copy_, run_underlying' ht, Builtin.lenOf, run_sizeOf' hinf, Builtin.firstCells, goInt]) (by simpa using h)
      · rename_i a n c hxx hyy
        rw [hxx] at hx; rw [hyy] at hy
        generalize ρ' x = q at hx hrun same; generalize ρ' y = r at hy hrun same
        cases hx
        cases hy <;> exact same (by simp [Builtin.copy_, run_underlying' ht, Builtin.lenOf, run_sizeOf' hinf, Builtin.firstCells, goInt, loadCells, loadCellsFrom]) (by simpa using h)
      · rename_i a n c hxx hyy
        rw [hxx] at hx; rw [hyy] at hy
        generalize ρ' x = q at hx hrun same; generalize ρ' y = r at hy hrun same
        cases hy
        cases hx <;> exact same (by simp [Builtin.copy_, run_underlying' ht, Builtin.lenOf, run_sizeOf' hinf, Builtin.firstCells, goInt, storeCells]) (by simpa using h)
      · rename_i i p n c j q m d hxx hyy
        rw [hxx] at hx; rw [hyy] at hy
        cases hz : Nat.beq (Nat.min m n) 0 with
        | true =>
          have hz' := Nat.eq_of_beq_eq_true hz
          rw [hz] at h
          generalize ρ' x = q at hx hrun same; generalize ρ' y = r at hy hrun same
          have hz2 : min m n = 0 := hz'
          cases hx <;> cases hy <;> exact same (by simp [Builtin.copy_, run_underlying' ht, Builtin.lenOf, run_sizeOf' hinf, Builtin.firstCells, goInt, loadCells, loadCellsFrom, storeCells, hz2]) (by simpa using h)
        | false =>
          have hz' := Nat.ne_of_beq_eq_false hz
          have hz2 : ¬ min m n = 0 := hz'
          rw [hz] at h
          simp only [cond] at h
          split at h
          · rename_i cells elem esz src el2 esz2 own2 hi hj
            split at h
            · rename_i l hl
              obtain ⟨H1, hst, he⟩ := Option.map_eq_some_iff.1 h
              cases he
              generalize ρ' x = q at hx hrun same; generalize ρ' y = r at hy hrun same
              cases hx with
              | sliceE => omega
              | @slice _ _ _ _ c' s hs hn hm hc =>
                cases hy with
                | sliceE => omega
                | @slice _ _ _ _ d' s2 hs2 hn2 hm2 hc2 =>
                  obtain ⟨l', a1, a2, a3, a4⟩ := rel_piece hr hj hs2 hl
                  have hf := run_firstCells_some (P := P) w inf.size (Nat.min m n) _ m d' l' a1 a3
                  obtain ⟨w', b1, b2, b3, _⟩ := storeCells_goes (P := P) hs (p := p) l l' H _ w cells p 0 hr hi rfl (by omega) a4 hst
                  refine ⟨β, .int .i64 (Nat.min m n), w', ⟨_, hrun _ _ ?_, .inl rfl⟩, .int _ _, b2, fun _ _ => rfl, b3⟩
                  simp only [Builtin.copy_, Sem.run_bind, run_underlying' ht, Result.andThen_ok, Builtin.lenOf, Sem.run_pure, run_sizeOf' hinf, hf, b1, goInt, List.getElem?_toArray, List.getElem?_cons_zero, List.getElem?_cons_succ]
            · cases h
          · cases h
      · cases h
    · cases h
  · cases h

/-! ### bytes as a string -/
def bytesOf : List Value → Option (List Int)
  | [] => some []
  | .int .u8 n :: l => (bytesOf l).map fun r => n :: r
  | _ => none
theorem bytesOf_eq : ∀ (l : List Value) (ns : List Int), bytesOf l = some ns → l = ns.map (Value.int .u8)
  | [], ns, h => by cases h; rfl
  | v :: l, ns, h => by
    unfold bytesOf at h
    split at h
    · cases ‹_ :: _ = []›
    · rename_i n l2 he
      injection he with h1 h2
      subst h1 h2
      obtain ⟨r, hr, rfl⟩ := Option.map_eq_some_iff.1 h
      rw [List.map_cons, ← bytesOf_eq _ r hr]
    · cases h
def aToString (P : Program) (src dst : TypeId) (x : Value) (H : AHeap) : Option Value :=
  match P.underlying src, P.underlying dst with
  | some (.slice e), some .string => match P.underlying e with
    | some (.int .u8) => match x with
      | .slice none 0 0 => some (.string .empty)
      | .slice (some ⟨i, o, none⟩) n _ => cond (Nat.beq n 0) (some (.string .empty)) (match H.get i with
        | some (.row cells _ _ _) => match cut cells o n with
          | some l => (bytesOf l).map fun ns => .string (ns.foldl (fun r n => r.push (UInt8.ofNat n.toNat)) ByteArray.empty)
          | none => none
        | _ => none)
      | _ => none
    | _ => none
  | _, _ => none
theorem fits_toString {P : Program} {o : Oper} {ρ : Operand → Value} {src dst : TypeId} {x : Operand} {v : Value} (ho : o.op = .convert src dst x) (fid : Nat) (H : AHeap) (h : aToString P src dst (ρ x) H = some v) : Fits P o ρ fid H v H := by
  refine fits_value fid H fun β w ρ' hr hρ => ?_
  have hx := hρ x (by simp [ho, Op.operands])
  have hrun : ∀ v', (convert src dst (ρ' x)).run P w = .ok v' w → (execOp ρ' o).run P w = .ok (.value v') w := fun v' he => by
    simp only [execOp, ho, Sem.run_bind, he, Result.andThen_ok, Sem.run_pure]
  unfold aToString at h
  split at h
  · rename_i e hs hd
    split at h
    · rename_i he
      have hconv : ∀ a l c, (convert src dst (.slice a l c)).run P w = (Conv.bytesToString (.slice a l c)).run P w := fun a l c => run_convert_bytes_string w src dst e a l c hs he hd
      split at h
      · rename_i hxx
        rw [hxx] at hx; generalize ρ' x = q at hx hrun
        cases hx; cases h
        exact ⟨.string .empty, hrun _ (by rw [hconv]; simp [Conv.bytesToString]), .string _⟩
      · rename_i i p n c hxx
        rw [hxx] at hx; generalize ρ' x = q at hx hrun
        cases hz : Nat.beq n 0 with
        | true =>
          have := Nat.eq_of_beq_eq_true hz; subst this
          rw [hz] at h; cases h
          have h0 : ∀ a c, (Conv.bytesToString (.slice (some a) 0 c)).run P w = .ok (.string .empty) w := fun a c => by
            have := run_bytesToString (P := P) w a 0 c [] (by simp [loadCells, loadCellsFrom])
            simpa using this
          cases hx <;> exact ⟨.string .empty, hrun _ (by rw [hconv, h0]), .string _⟩
        | false =>
          have hz' := Nat.ne_of_beq_eq_false hz
          rw [hz] at h
          simp only [cond] at h
          split at h
          · rename_i cells elem esz own hi
            split at h
            · rename_i l hl
              obtain ⟨ns, hns, rfl⟩ := Option.map_eq_some_iff.1 h
              have hle := bytesOf_eq l ns hns
              cases hx with
              | sliceE => omega
              | @slice _ _ _ _ c' s hs2 hn hm hc =>
                obtain ⟨l', a1, a2, a3, a4⟩ := rel_piece hr hi hs2 hl
                have hl' : l' = ns.map (Value.int .u8) := by
                  apply List.ext_getElem?
                  intro j
                  by_cases hj : j < n
                  · have e1 : l[j]? = some (l[j]'(by omega)) := by simp
                    have e2 : l'[j]? = some (l'[j]'(by omega)) := by simp
                    have hv := a4 j _ _ e1 e2
                    rw [e2]
                    have e3 : (ns.map (Value.int .u8))[j]? = some (l[j]'(by omega)) := by rw [← hle]; exact e1
                    rw [e3]
                    rw [List.getElem?_map] at e3
                    obtain ⟨m, _, hm2⟩ := Option.map_eq_some_iff.1 e3
                    rw [← hm2] at hv ⊢
                    generalize l'[j]'(by omega) = u at hv ⊢
                    cases hv; rfl
                  · rw [List.getElem?_eq_none (by omega), List.getElem?_eq_none (by rw [← hle]; omega)]
                have hload := run_loadCells_list (P := P) w _ l' a3
                rw [a1, hl'] at hload
                exact ⟨_, hrun _ (by rw [hconv]; exact run_bytesToString w _ n c' ns hload), .string _⟩
            · cases h
          · cases h
      · cases h
    · cases h
  · cases h
end Go.Proofs.YtdfadipfhcikdaaGreatDoor

namespace Go.Proofs.YtdfadipfhcikdaaGreatDoor
open Go.RowKit

/-- the whole of an array, by its pointer -/
def aSliceArr (P : Program) (t : TypeId) (x : Value) (lo hi mx : Option Value) : Option Value := match P.underlying t, x, lo, hi, mx with
  | some (.array n el), .pointer (some ⟨i, p, none⟩), none, none, none => match P.info? el with
    | some _ => cond (Nat.ble n 9223372036854775807) (some (.slice (some ⟨i, p, none⟩) n (n + 1))) none
    | none => none
  | _, _, _, _, _ => none
theorem fits_sliceArr {P : Program} {o : Oper} {ρ : Operand → Value} {t : TypeId} {x : Operand} {lo hi mx : Option Operand} {v : Value} (ho : o.op = .slice t x lo hi mx) (fid : Nat) (H : AHeap) (h : aSliceArr P t (ρ x) (lo.map ρ) (hi.map ρ) (mx.map ρ) = some v) : Fits P o ρ fid H v H := by
  refine fits_value fid H fun β w ρ' hr hρ => ?_
  have hx := hρ x (by simp [ho, Op.operands])
  unfold aSliceArr at h
  split at h
  · rename_i n el i p ht hxx hl hh hm
    have el1 : lo = none := by cases lo with
      | none => rfl
      | some _ => cases hl
    have eh1 : hi = none := by cases hi with
      | none => rfl
      | some _ => cases hh
    have em1 : mx = none := by cases mx with
      | none => rfl
      | some _ => cases hm
    subst el1 eh1 em1
    rw [hxx] at hx
    split at h
    · rename_i inf hinf
      cases hb : Nat.ble n 9223372036854775807 with
      | false => rw [hb] at h; cases h
      | true =>
        rw [hb] at h
        cases h
        generalize hu : ρ' x = u at hx
        cases hx with
        | @ptr _ _ s hs =>
          refine ⟨.slice (some ⟨s.blk, s.shift + p, none⟩) n n, ?_, .slice hs (Nat.le_refl _) (Nat.le_of_ble_eq_true hb) (.inl rfl)⟩
          have hadd : ((⟨s.blk, s.shift + p, none⟩ : Addr).add (0 * inf.size)) = ⟨s.blk, s.shift + p, none⟩ := by rw [Nat.zero_mul, add_none, Nat.add_zero]
          simp [execOp, ho, hu, Instr.sliceAt, Instr.sureAddr, run_underlying' ht, Instr.sliceBounds, run_sizeOf' hinf, Addr.add]
    · cases h
  · cases h
/-- a slice type's elements have a zero value of their size -/
def elemZeroOk (P : Program) (t : TypeId) : Bool := match P.underlying t with
  | some (.slice el) => zeroOk P el
  | _ => false
/-- one operation that calls no function -/
def aSimple (P : Program) (ρ : Operand → Value) (o : Oper) (fid : Nat) (H : AHeap) : Option (Value × AHeap) :=
  match o.op with
  | .move x | .assign x => some (ρ x, H)
  | .pick c x y => match ρ c with
    | .bool t => some (cond t (ρ x) (ρ y), H)
    | _ => none
  | .alloc t => match P.info? t with
    | some inf => match inf.zero with
      | some z => cond (flat2 z) (some (.pointer (some ⟨fid, 0, none⟩), newRowA fid z.cells.toList t 0 H)) none
      | none => none
    | none => none
  | .box t x => some (.pointer (some ⟨fid, 0, none⟩), newRowA fid (ρ x).cells.toList t 0 H)
  | .build t ps => (aBuild P ρ t ps).map fun v => (v, H)
  | .buildSlice t n ps => aBuildSlice P ρ t n ps fid H
  | .load t x => (aLoad P t (ρ x) H).map fun v => (v, H)
  | .store t x y => (aStore P t (ρ x) (ρ y) H).map fun H' => (undef, H')
  | .nilCheck x => match ρ x with
    | .pointer (some _) => some (ρ x, H)
    | .func (.func _) _ _ => some (ρ x, H)
    | _ => none
  | .field t x f => match ρ x, P.underlying t with
    | .agg cs, some (.struct fs) => match fs[f]? with
      | some fd => (aPart P fd.type cs fd.offset).map fun v => (v, H)
      | none => none
    | _, _ => none
  | .extract x k => match ρ x with
    | .tuple vs => (vs[k]?).map fun v => (v, H)
    | _ => none
  | .index t x ix => match ρ x, ρ ix, P.underlying t with
    | .agg cs, .int _ (.ofNat i), some (.array n el) => match P.info? el with
      | some inf => cond (Nat.blt i n) ((aPart P el cs (i * inf.size)).map fun v => (v, H)) none
      | none => none
    | _, _, _ => (aPure P ρ o).map fun v => (v, H)
  | .makeFunc fn a c => some (.func fn (a.map ρ) (c.map ρ), H)
  | .makeInterface t x => match P.underlying t with
    | some (.interface _) => none
    | some _ => some (.iface t (ρ x), H)
    | none => none
  | .makeMap _ none => some (.map (some fid), H.add fid (.map [] 0))
  | .makeSlice t l c => aMakeSlice P t (ρ l) (ρ c) fid H
  | .fieldAddr t x f => match ρ x, P.underlying t with
    | .pointer (some ⟨i, p, none⟩), some (.struct fs) => match fs[f]? with
      | some fd => match P.info? fd.type with
        | some inf => cond (Nat.beq inf.size 0) none (some (.pointer (some ⟨i, p + fd.offset, none⟩), H))
        | none => none
      | none => none
    | _, _ => none
  | .indexAddr t x ix => match ρ x, ρ ix, P.underlying t with
    | .slice (some ⟨i, p, none⟩) n _, .int _ (.ofNat j), some (.slice el) => match P.info? el with
      | some inf => cond (Nat.blt j n) (some (.pointer (some ⟨i, p + j * inf.size, none⟩), H)) none
      | none => none
    | .pointer (some ⟨i, p, none⟩), .int _ (.ofNat j), some (.array n el) => match P.info? el with
      | some inf => cond (Nat.blt j n) (some (.pointer (some ⟨i, p + j * inf.size, none⟩), H)) none
      | none => none
    | _, _, _ => none
  | .slice t x lo hi mx => match ρ x with
    | .slice _ _ _ => (aSlice P t (ρ x) (lo.map ρ) (hi.map ρ) (mx.map ρ) H).map fun v => (v, H)
    | .pointer _ => (aSliceArr P t (ρ x) (lo.map ρ) (hi.map ρ) (mx.map ρ)).map fun v => (v, H)
    | _ => (aPure P ρ o).map fun v => (v, H)
  | .lookup t x k ok => (aLookup P t (ρ x) (ρ k) ok H).map fun v => (v, H)
  | .mapUpdate t x k y | .insert t x k y => (aMapUpdate P t (ρ x) (ρ k) (ρ y) H).map fun H' => (undef, H')
  | .binOp op t x y _ => match aPure P ρ o with
    | some v => some (v, H)
    | none => (aNilEq P op t (ρ x) (ρ y)).map fun v => (v, H)
  | .call { callee := .builtin .append, args, argTypes } => match args.toList, argTypes.toList with
    | [x, y], [t, u] => cond (elemZeroOk P t) (aAppend P t u (ρ x) (ρ y) fid H) none
    | _, _ => none
  | .call { callee := .builtin .len, args, argTypes } => match args.toList, argTypes.toList with
    | [x], [t] => match aLen P t (ρ x) H with
      | some v => some (v, H)
      | none => (aPure P ρ o).map fun v => (v, H)
    | _, _ => none
  | .call { callee := .builtin .delete, args, argTypes } => match args.toList, argTypes.toList with
    | [x, k], [t, _] => (aDelete P t (ρ x) (ρ k) H).map fun H' => (undef, H')
    | _, _ => none
  | .call { callee := .builtin .clear, args, argTypes } => match args.toList, argTypes.toList with
    | [x], [t] => match P.underlying t with
      | some _ => (aClear P t (ρ x) H).map fun H' => (undef, H')
      | none => none
    | _, _ => none
  | .call { callee := .builtin .copy, args, argTypes } => match args.toList, argTypes.toList with
    | [x, y], [t, _] => aCopy P t (ρ x) (ρ y) H
    | _, _ => none
  | .call { callee := .builtin _, .. } => (aPure P ρ o).map fun v => (v, H)
  | .convert src dst x => match ρ x with
    | .slice _ _ _ => (aToString P src dst (ρ x) H).map fun v => (v, H)
    | _ => (aPure P ρ o).map fun v => (v, H)
  | .unOp .. | .range .. | .next .. => (aPure P ρ o).map fun v => (v, H)
  | _ => none

/-! ### the frame -/
def aEval (env : Tr Value) : Operand → Value
  | .tmp t => (env.get t).getD undef
  | .const v => v
  | .global g => .pointer (some ⟨g, 0, none⟩)
  | .func f => .func (.func f) #[] #[]
def putE (env : Tr Value) : Option Tmp → Value → Tr Value
  | some d, v => env.put d (some v)
  | none, _ => env
def dstOk (nt : Nat) : Option Tmp → Bool
  | some d => Nat.blt d nt
  | none => true
/-- the constants of an operation are values without blocks; no global variable but those of a list -/
def constsOk (gs : List Nat) (o : Oper) : Bool := o.op.operands.toList.all fun
  | .const v => flat v
  | .global g => gs.any (Nat.beq g)
  | _ => true
def wantedA (o : Oper) (ops : List Oper) (env : Tr Value) : Bool :=
  match o.guard with
  | none => true
  | some (j, want) => match (ops[j]?).bind (·.dst) with
    | some t => match env.get t with
      | some (.bool b) => b == want
      | _ => false
    | none => false

/-- a call's answer: the value, the memory, and whether all that was there is as it was -/
abbrev CallFn := FuncId → List Value → AHeap → Option (Value × AHeap)

/-- the callee of an operation, with its arguments -/
def calleeOf (P : Program) (ρ : Operand → Value) : Op → Option (FuncId × List Value)
  | .call { callee := .value f, args, .. } => match ρ f with
    | .func (.func g) first captured => match P.funcs[g]? with
      | some fn => cond (fn.body.isSome && fn.name != "runtime.NumGoroutine") (some (g, first.toList ++ (args.toList.map ρ) ++ captured.toList)) none
      | none => none
    | _ => none
  | _ => none
def aStep (P : Program) (call : CallFn) (ρ : Operand → Value) (o : Oper) (fid : Nat) (H : AHeap) : Option (Value × AHeap) :=
  match o.op with
  | .call { callee := .value _, .. } => match calleeOf P ρ o.op with
    | some (g, args) => call g args H
    | none => none
  | _ => aSimple P ρ o fid H

/-! ### what an operation of a region that draws its order looks at and turns -/
inductive Class where
  | pure
  | fresh (i : Nat)
  | load (i : Nat)
  | other (quiet : Bool) (w : List Nat)
def zY (ρ : Operand → Value) (fid : Nat) (H H' : AHeap) : Op → Class
  | .move _ | .assign _ | .pick .. | .build .. | .nilCheck _ | .field .. | .extract .. | .index .. | .makeFunc .. | .makeInterface .. | .fieldAddr .. | .indexAddr .. | .binOp .. | .unOp .. => .pure
  | .alloc _ | .box .. | .buildSlice .. | .makeMap .. | .makeSlice .. => .fresh fid
  | .load _ x => match ρ x with
    | .pointer (some a) => .load a.block
    | _ => .other false []
  | .slice _ x _ _ _ => match ρ x with
    | .string _ => .pure
    | _ => .other true []
  | .convert _ _ x => match ρ x with
    | .slice _ _ _ => .other true []
    | _ => .pure
  | .lookup .. => .other true []
  | .call { callee := .builtin .len, args, .. } => match args.toList with
    | [x] => match ρ x with
      | .slice _ _ _ | .string _ => .pure
      | _ => .other true []
    | _ => .other true []
  | _ => .other (Nat.beq H.next H'.next && H'.log.isEmpty) H'.log
def clash : Class → Class → Bool
  | .other q _, .other r _ => !(q && r)
  | .load i, .other _ w | .other _ w, .load i | .fresh i, .other _ w | .other _ w, .fresh i => w.any (Nat.beq i)
  | _, _ => false

def aOps (P : Program) (gs : List Nat) (call : CallFn) (all : List Oper) (nt base : Nat) : List Oper → Nat → Tr Value → AHeap → Option (Tr Value × AHeap)
  | [], _, env, H => some (env, H)
  | o :: os, k, env, H => cond (dstOk nt o.dst && constsOk gs o) (cond (wantedA o all env) (match aStep P call (aEval env) o (base + k) H with
      | some (v, H') => aOps P gs call all nt base os (k + 1) (putE env o.dst v) H'
      | none => none) (aOps P gs call all nt base os (k + 1) (putE env o.dst undef) H)) none

/-- the temporaries that an operation names -/
def namesOf (ops : List Oper) (o : Oper) : List Tmp :=
  o.dst.toList ++ (o.op.operands.toList.filterMap fun | .tmp t => some t | _ => none) ++ (match o.guard with
    | some (j, _) => ((ops[j]?).bind (·.dst)).toList
    | none => [])
/-- whoever writes a temporary is in order with whoever names it; what is ahead by an edge is ahead in the text -/
def orderOk (ops : List Oper) (bf : List Nat) : Bool :=
  ops.zipIdx.all fun (o, k) => o.after.toList.all (fun e => !Region.binds .any e || Nat.blt e.on k) && (namesOf ops o).all fun t =>
    ops.zipIdx.all fun (p, j) => !(p.dst == some t) || (Nat.beq j k || (cond (Nat.blt j k) (((bf[k]?).getD 0).testBit j) (((bf[j]?).getD 0).testBit k)))
/-- the same, where the order is drawn: each operation's class is held against those ahead of it that need not be ahead -/
def aDraw (P : Program) (gs : List Nat) (call : CallFn) (all : List Oper) (bf : List Nat) (nt base : Nat) : List Oper → Nat → Tr Value → AHeap → List (Nat × Class) → Option (Tr Value × AHeap)
  | [], _, env, H, _ => some (env, H)
  | o :: os, k, env, H, cs => cond (dstOk nt o.dst && constsOk gs o) (cond (wantedA o all env) (match aStep P call (aEval env) o (base + k) { H with log := [] } with
      | some (v, H') =>
        let c := zY (aEval env) (base + k) H H' o.op
        let b := (bf[k]?).getD 0
        cond (cs.any fun p => !b.testBit p.1 && clash p.2 c) none (aDraw P gs call all bf nt base os (k + 1) (putE env o.dst v) { H' with log := H'.log.foldl (fun l i => noteId i l) H.log } ((k, c) :: cs))
      | none => none) (aDraw P gs call all bf nt base os (k + 1) (putE env o.dst undef) H cs)) none

/-! ### code -/
def loopN {α : Type} (body : Tr Value → AHeap → Option (α × Tr Value × AHeap)) (isNormal : α → Bool) : Nat → Tr Value → AHeap → Option (α × Tr Value × AHeap)
  | 0, _, _ => none
  | n + 1, env, H => match body env H with
    | some (e, env', H') => cond (isNormal e) (loopN body isNormal n env' H') (some (e, env', H'))
    | none => none
/-- how a piece of code is left: on, out of a block, back -/
inductive Way where
  | on
  | out (id : Nat)
  | back
def Way.isOn : Way → Bool
  | .on => true
  | _ => false

def aCode (P : Program) (gs : List Nat) (call : CallFn) (nt fuel : Nat) : Code → Tr Value → AHeap → Option (Way × Tr Value × AHeap)
  | .skip, env, H => some (.on, env, H)
  | .region _ ops draw, env, H =>
    (cond draw (cond (orderOk ops.toList (Region.before ops).toList) (aDraw P gs call ops.toList (Region.before ops).toList nt H.next ops.toList 0 env { H with next := H.next + ops.toList.length } []) none) (aOps P gs call ops.toList nt H.next ops.toList 0 env { H with next := H.next + ops.toList.length })).map fun (env', H') => (.on, env', H')
  | .seq a b, env, H => match aCode P gs call nt fuel a env H with
    | some (.on, env', H') => aCode P gs call nt fuel b env' H'
    | r => r
  | .cond c a b, env, H => match aEval env c with
    | .bool t => cond t (aCode P gs call nt fuel a env H) (aCode P gs call nt fuel b env H)
    | _ => none
  | .block id c, env, H => match aCode P gs call nt fuel c env H with
    | some (.out i, env', H') => cond (Nat.beq i id) (some (.on, env', H')) (some (.out i, env', H'))
    | r => r
  | .loop c, env, H => loopN (aCode P gs call nt fuel c) Way.isOn fuel env H
  | .exit id, env, H => some (.out id, env, H)
  | .label _, env, H => some (.on, env, H)
  | .ret, env, H => some (.back, env, H)
  | .scope c, env, H => match aCode P gs call nt fuel c env H with
    | some (.on, env', H') => some (.on, env', H')
    | some (.back, env', H') => some (.back, env', H')
    | _ => none
  | _, _, _ => none

def qG : List Value → Nat → Tr Value → Tr Value
  | [], _, env => env
  | v :: vs, k, env => qG vs (k + 1) (env.put k (some v))
def aResults (P : Program) (env : Tr Value) (H : AHeap) : List ResultVar → Option (List Value)
  | [] => some []
  | .tmp t :: rs => match aResults P env H rs with
    | some vs => some ((env.get t).getD undef :: vs)
    | none => none
  | .cell a t :: rs => match aLoad P t ((env.get a).getD undef) H, aResults P env H rs with
    | some v, some vs => some (v :: vs)
    | _, _ => none
def oneOf : List Value → Value
  | [v] => v
  | vs => .tuple vs.toArray

/-- what a call leaves: where nothing was turned and the answer has no new block, the memory is as it was -/
def leave (H : AHeap) (v : Value) (H' : AHeap) : Value × AHeap :=
  cond (H'.log.all (fun i => Nat.ble H.next i) && lowV H.next v) (v, H) (v, { H' with log := (H'.log.filter fun i => Nat.blt i H.next).foldl (fun l i => noteId i l) H.log })

def aCall (P : Program) (gs : List Nat) : Nat → CallFn
  | 0 => fun _ _ _ => none
  | n + 1 => fun f args H => match P.funcs[f]? with
    | some fn => match fn.body with
      | some c => cond (Nat.ble args.length fn.ntmps) (match aCode P gs (aCall P gs n) fn.ntmps n c (qG args 0 .nil) { H with log := [] } with
        | some (.on, env, H') | some (.back, env, H') => (aResults P env H' fn.results.toList).map fun vs => leave H (oneOf vs) H'
        | _ => none) none
      | none => none
    | none => none
end Go.Proofs.YtdfadipfhcikdaaGreatDoor
