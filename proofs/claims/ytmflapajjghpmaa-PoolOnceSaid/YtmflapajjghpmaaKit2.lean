/- Laws of my own on what a call touches: a frame with exceptions. No program in sight. -/
import Derived.Test.YtmflapajjghpmaaKit
import Derived.WalkSmall
namespace Go.Proofs.Ytmflapajjghpmaa
open Go.RowKit

/-- Of the blocks that were there, those of S alone may have turned. -/
structure Touch (S : Nat → Prop) (w w' : World) : Prop where
  os : w'.os = w.os
  tape : w'.tape = w.tape
  output : w'.output = w.output
  size : w.heap.size ≤ w'.heap.size
  block : ∀ k, k < w.heap.size → ¬ S k → w'.heap[k]? = w.heap[k]?

theorem Touch.refl (S : Nat → Prop) (w : World) : Touch S w w := ⟨rfl, rfl, rfl, Nat.le_refl _, fun _ _ _ => rfl⟩
theorem Touch.trans {S T : Nat → Prop} {a b c : World} (h : Touch S a b) (k : Touch T b c) (hT : ∀ i, T i → S i ∨ a.heap.size ≤ i) : Touch S a c :=
  ⟨k.os.trans h.os, k.tape.trans h.tape, k.output.trans h.output, Nat.le_trans h.size k.size, fun i hi hS =>
    (k.block i (Nat.lt_of_lt_of_le hi h.size) (fun ht => (hT i ht).elim hS (fun h2 => by omega))).trans (h.block i hi hS)⟩
theorem Touch.mono {S T : Nat → Prop} {a b : World} (h : Touch S a b) (hT : ∀ i, S i → T i) : Touch T a b :=
  ⟨h.os, h.tape, h.output, h.size, fun i hi hS => h.block i hi (fun hs => hS (hT i hs))⟩
theorem Touch.alloc {S : Nat → Prop} {a w : World} (h : Touch S a w) (o : Obj) : Touch S a (w.alloc o) :=
  h.trans (T := fun _ => False) ⟨rfl, rfl, rfl, by simp, fun k hk _ => Below.heap_alloc _ _ _ hk⟩ (fun _ h => h.elim)
theorem Touch.setCell {S : Nat → Prop} {a w : World} (h : Touch S a w) {p : Addr} (hp : S p.block ∨ a.heap.size ≤ p.block) (u : Value) : Touch S a (w.setCell p u) :=
  h.trans (T := fun k => k = p.block) ⟨rfl, rfl, rfl, by simp [World.setCell], fun k _ hk => Below.heap_setCell _ _ _ _ hk⟩ (fun _ h => by rw [h]; exact hp)
theorem Touch.drew {S : Nat → Prop} {a w : World} (h : Touch S a w) : Touch S a w.drew := ⟨h.os, h.tape, h.output, h.size, h.block⟩
theorem Touch.drewN {S : Nat → Prop} {a w : World} (h : Touch S a w) (n : Nat) : Touch S a (w.drewN n) := ⟨h.os, h.tape, h.output, h.size, h.block⟩
theorem Touch.grown {S : Nat → Prop} {a w w' : World} {row : Option Nat} (h : Touch S a w) (hg : w.grownBy w' row) (hr : ∀ k, row = some k → S k ∨ a.heap.size ≤ k) : Touch S a w' :=
  h.trans (T := fun k => row = some k) ⟨hg.os, hg.tape, hg.output, hg.size, fun k hk hne => hg.block k hk (fun e => hne e.symm)⟩ hr
theorem Touch.below {S : Nat → Prop} {a b c : World} (h : Touch S a b) (k : Below b.heap.size b c) : Touch S a c :=
  h.trans (T := fun _ => False) ⟨k.os, k.tape, k.output, k.size, fun i hi _ => k.block i hi⟩ (fun _ h => h.elim)
theorem Below.touch {w w' : World} (h : Below w.heap.size w w') (S : Nat → Prop) : Touch S w w' := (Touch.refl S w).below h
theorem Touch.toBelow {S : Nat → Prop} {w w' : World} (h : Touch S w w') {B : Nat} (hB : B ≤ w.heap.size) (hS : ∀ k, S k → B ≤ k) : Below B w w' :=
  ⟨h.os, h.tape, h.output, h.size, fun k hk => h.block k (by omega) (fun hs => by have := hS k hs; omega)⟩
theorem Touch.cell {S : Nat → Prop} {w w' : World} (h : Touch S w w') {p : Addr} (hp : p.block < w.heap.size) (hS : ¬ S p.block) : w'.cell? p = w.cell? p := World.cell?_of_block (w := w) (h.block p.block hp hS)
theorem Touch.obj {S : Nat → Prop} {w w' : World} (h : Touch S w w') {k : Nat} {o : Obj} (ho : w.heap[k]? = some o) (hS : ¬ S k) : w'.heap[k]? = some o := (h.block k (Array.getElem?_eq_some_iff.1 ho).1 hS).trans ho
theorem Touch.row {S : Nat → Prop} {w w' : World} (h : Touch S w w') {base E size n : Nat} {v : Value} {xs : List Value} (ho : w.ownsRow base E size v n xs) (hS : ∀ g, v.ownBlock = some g → ¬ S g) : w'.ownsRow base E size v n xs := by
  refine ⟨ho.1, ?_⟩
  rcases ho.2 with h0 | ⟨g, cap, cur, rfl, hg, hh, r⟩
  · exact .inl h0
  · exact .inr ⟨g, cap, cur, rfl, hg, h.obj hh (hS g rfl), r⟩

/-! ### a block of known cells -/
theorem known_cell {w : World} {b : Nat} {c : Array Value} {T : TypeId} (h : w.heap[b]? = some (.cells c T (0, 0))) (i : Nat) : w.cell? ⟨b, i, none⟩ = c[i]? := cell_of_row w b i c T (0, 0) h
theorem known_free {w : World} {b : Nat} {c : Array Value} {T : TypeId} (h : w.heap[b]? = some (.cells c T (0, 0))) (i : Nat) : w.frozen? ⟨b, i, none⟩ = false := frozen_of_row w b i c T h
theorem known_set {w : World} {b : Nat} {c : Array Value} {T : TypeId} (h : w.heap[b]? = some (.cells c T (0, 0))) (i : Nat) (u : Value) : (w.setCell ⟨b, i, none⟩ u).heap[b]? = some (.cells (c.setIfInBounds i u) T (0, 0)) := heap_setCell_same w b i c T u h
theorem known_other {w : World} {b : Nat} {o : Obj} (h : w.heap[b]? = some o) (p : Addr) (hp : p.block ≠ b) (u : Value) : (w.setCell p u).heap[b]? = some o := (Below.heap_setCell w p u b (fun e => hp e.symm)).trans h

/-- two blocks of unlike types are two -/
theorem row_ne {w : World} {base E size n b : Nat} {v : Value} {xs : List Value} {c : Array Value} {T : TypeId} {fz : Nat × Nat} (h : w.ownsRow base E size v n xs) (hb : w.heap[b]? = some (.cells c T fz)) (hT : T ≠ E) : ∀ g, v.ownBlock = some g → g ≠ b := by
  intro g hg e
  rcases h.2 with ⟨rfl, _⟩ | ⟨g', cap, cur, rfl, _, hh, _⟩
  · simp [Value.ownBlock] at hg
  · simp [Value.ownBlock] at hg
    subst hg; subst e
    rw [hh] at hb
    simp at hb
    exact hT hb.2.1.symm

/-- a store into an owned row of integers -/
theorem owns_set {w : World} {base E : Nat} {g n cap : Nat} {k : IntKind} {xs : List Int} (h : w.ownsRow base E 1 (.slice (some ⟨g, 0, none⟩) n cap) n (xs.map (Value.int k))) (j : Nat) (u : Int) :
    (w.setCell ⟨g, j, none⟩ (.int k u)).ownsRow base E 1 (.slice (some ⟨g, 0, none⟩) n cap) n ((xs.set j u).map (Value.int k)) := by
  have := (h.stored j (.int k u)).1
  rwa [← List.map_set] at this
theorem owns_cell {w : World} {base E : Nat} {g n cap : Nat} {k : IntKind} {xs : List Int} (h : w.ownsRow base E 1 (.slice (some ⟨g, 0, none⟩) n cap) n (xs.map (Value.int k))) (j : Nat) (x : Int) (hx : xs[j]? = some x) : w.cell? ⟨g, j, none⟩ = some (.int k x) := by
  have hl : xs.length = n := by have := h.1; simpa using this
  have hj : j < xs.length := (List.getElem?_eq_some_iff.1 hx).1
  rw [h.cellAt j (by omega), List.getElem?_map, hx]; rfl
theorem owns_len {w : World} {base E : Nat} {v : Value} {n : Nat} {k : IntKind} {xs : List Int} (h : w.ownsRow base E 1 v n (xs.map (Value.int k))) : xs.length = n := by
  have := h.1; simpa using this
end Go.Proofs.Ytmflapajjghpmaa
