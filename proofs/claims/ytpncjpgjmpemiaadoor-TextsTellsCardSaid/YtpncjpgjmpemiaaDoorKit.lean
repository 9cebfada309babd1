/- Laws of my own on slices that a call makes, beside the kit's: one element appended; a row read; no program in sight. -/
import Derived.WalkKit
import Derived.Lib.Hide
import Derived.Handy
import Derived.WalkSpells
namespace Go.Proofs.YtpncjpgjmpemiaaDoor
open Go.RowKit
set_option linter.unusedSimpArgs false
set_option linter.unusedVariables false

theorem ret_bool {a b : Bool} (h : a = b) : Ending.returned (.bool a) = .returned (.bool b) := by rw [h]

/-- what the program's table says of a slice type and its element type -/
structure Elem (P : Program) (T E : TypeId) (z : Value) (size bytes : Nat) : Prop where
  und : P.underlying T = some (.slice E)
  info : (P.info? E).map (fun i => (i.zero, i.size, i.bytes)) = some (some z, size, bytes)

theorem below_row {w0 W w' : World} {base : Nat} {row : Option Nat} (h : Below base w0 W) (hg : W.grownBy w' row) (hb : base ≤ W.heap.size) (hr : ∀ k, row = some k → base ≤ k) : Below base w0 w' := h.grown hg hb hr

/-- 'out = append(out, y)', out the call's own, y one cell. -/
theorem wpList_append_1 {P : Program} {ops : Array Oper} {rest : List Oper} {o : Oper} {a : Act} {Q : Exit → Act → World → Prop} {T E : TypeId} {z : Value} {bytes : Nat} (he : Elem P T E z 1 bytes) (hz : z.cells.size = 1)
    (W : World) (hgd : o.guard = none) (s x : Operand) (hop : o.op = .call { callee := .builtin .append, args := #[s, x], argTypes := #[T, T] })
    {base n : Nat} {v : Value} {xs : List Value} (hs : a.eval s = v) (hown : W.ownsRow base E 1 v n xs) (y : Value) (hx : a.eval x = .slice (some ⟨W.heap.size, 0, none⟩) 1 1) (hy : y.oneCell' = true)
    (hn : n < 9223372036854775807) (hbytes : (n + 1) * bytes ≤ 140737488355328) (hbase : base ≤ W.heap.size) {w0 : World} (hbel : Below base w0 W)
    (h : ∀ v' w', w'.ownsRow base E 1 v' (n + 1) (xs ++ [y]) → Below base w0 w' → W.grownBy w' v.ownBlock → wpList P ops Q rest (a.put o.dst v') w') :
    wpList P ops Q (o :: rest) a (W.alloc (.cells #[y] E)) := by
  obtain ⟨i, hi, hz0, hz1, hz2⟩ := info_parts he.info
  refine wpList_append_own _ hgd s x T hop base E i z 1 bytes he.und hi hz0 hz1 hz2 hz (by decide) v n xs hs (hown.alloc _) ⟨W.heap.size, 0, none⟩ 1 1 [y] hx rfl ?_ ?_ ?_ hbytes ?_ ?_
  · intro j u hj
    match j, hj with
    | 0, hj => simp at hj; subst hj; simp [Addr.add]
  · intro u hu; simp at hu; subst hu; exact hy
  · unfold maxLen; omega
  · simp; omega
  · intro v' w' h1 h2 _
    have hrow : ∀ k, v.ownBlock = some k → base ≤ k := fun k hk => (hown.lt k hk).1
    refine h v' w' h1 ((hbel.alloc hbase _).grown h2 (by simp; omega) hrow) ?_
    exact ⟨h2.os, h2.tape, h2.output, by have := h2.size; simp at this; omega, fun k hk hne => (h2.block k (by simp; omega) hne).trans (Below.heap_alloc _ _ _ hk)⟩

theorem map_at (L : List Int) (k : IntKind) (i : Nat) (h : i < L.length) : (L.map (Value.int k))[i]? = some (.int k (L.getD i 0)) := by
  rw [List.getElem?_map, List.getElem?_eq_getElem h]
  simp [List.getD, h]

/-- what lies at an owned row's place -/
theorem owns_at {w : World} {base E n : Nat} {v : Value} {xs : List Value} (h : w.ownsRow base E 1 v n xs) (hn : 0 < n) :
    ∃ g cap, v = .slice (some ⟨g, 0, none⟩) n cap ∧ base ≤ g ∧ g < w.heap.size ∧ n ≤ cap ∧ cap ≤ maxLen ∧ ∀ i u, xs[i]? = some u → w.cell? ⟨g, i, none⟩ = some u := by
  rcases h.2 with ⟨_, h0⟩ | ⟨g, cap, cur, rfl, hb, hg, hc, hm, hs, ht⟩
  · omega
  · refine ⟨g, cap, rfl, hb, (Array.getElem?_eq_some_iff.1 hg).1, hc, hm, fun i u hu => ?_⟩
    have := h.cells (g := g) rfl i u hu
    have e : (⟨g, 0, none⟩ : Addr).add i = ⟨g, i, none⟩ := by unfold Addr.add; split <;> simp_all
    rw [e] at this; exact this

/-- an owned row in a world in which nothing below has turned -/
theorem owns_below {w w' : World} {base E n : Nat} {v : Value} {xs : List Value} (h : w.ownsRow base E 1 v n xs) {B : Nat} (hb : Below B w w') (hB : w.heap.size ≤ B) : w'.ownsRow base E 1 v n xs := by
  refine ⟨h.1, ?_⟩
  rcases h.2 with h0 | ⟨g, cap, cur, rfl, hg, hh, r⟩
  · exact .inl h0
  · have : g < w.heap.size := (Array.getElem?_eq_some_iff.1 hh).1
    exact .inr ⟨g, cap, cur, rfl, hg, (hb.block g (by omega)).trans hh, r⟩

/-- a whole known block is an owned row -/
theorem owns_block (W : World) (xs : List Value) (E : TypeId) (n : Nat) (hn : xs.length = n) (hm : n ≤ maxLen) (base : Nat) (hb : base ≤ W.heap.size) :
    (W.alloc (.cells xs.toArray E)).ownsRow base E 1 (.slice (some ⟨W.heap.size, 0, none⟩) n n) n xs :=
  ⟨by omega, .inr ⟨W.heap.size, n, xs.toArray, rfl, hb, heap_alloc_new W _, Nat.le_refl _, hm, by subst hn; simp, by subst hn; simp⟩⟩

/-! ### append of new elements of any size, and where the row lies behind it -/
theorem owns_base {w : World} {base base' E size n : Nat} {v : Value} {xs : List Value} (h : w.ownsRow base E size v n xs) (hb : base' ≤ base) : w.ownsRow base' E size v n xs :=
  ⟨h.1, h.2.imp id fun ⟨g, cap, cur, a, b, r⟩ => ⟨g, cap, cur, a, Nat.le_trans hb b, r⟩⟩

theorem block_cells (W : World) (news : List Value) (E : TypeId) : ∀ j u, news[j]? = some u → (W.alloc (.cells news.toArray E)).cell? ((⟨W.heap.size, 0, none⟩ : Addr).add j) = some u := by
  intro j u hj
  have e : (⟨W.heap.size, 0, none⟩ : Addr).add j = ⟨W.heap.size, j, none⟩ := by unfold Addr.add; split <;> simp_all
  rw [e, cell_of_row _ _ j _ _ (0, 0) (heap_alloc_new W _)]
  simpa using hj

/-- the row is where it was, or a new one -/
def MovedTo (W : World) (v v' : Value) : Prop := v'.ownBlock = v.ownBlock ∨ ∀ g, v'.ownBlock = some g → W.heap.size ≤ g

/-- 'out = append(out, y ..)', out the call's own. -/
theorem wpList_append_new {P : Program} {ops : Array Oper} {rest : List Oper} {o : Oper} {a : Act} {Q : Exit → Act → World → Prop} {T E : TypeId} {z : Value} {size bytes : Nat} (he : Elem P T E z size bytes) (hz : z.cells.size = size) (hsz : 0 < size)
    (W : World) (hgd : o.guard = none) (s x : Operand) (hop : o.op = .call { callee := .builtin .append, args := #[s, x], argTypes := #[T, T] })
    {base n : Nat} {v : Value} {xs : List Value} (hs : a.eval s = v) (hown : W.ownsRow base E size v n xs) (m : Nat) (news : List Value) (hx : a.eval x = .slice (some ⟨W.heap.size, 0, none⟩) m m) (hl : news.length = m * size) (hm : 0 < m) (hy : ∀ u ∈ news, u.oneCell' = true)
    (hn : n + m ≤ 9223372036854775807) (hbytes : (n + m) * bytes ≤ 140737488355328) (hbase : base ≤ W.heap.size) {w0 : World} {B : Nat} (hB : B ≤ base) (hbel : Below B w0 W)
    (h : ∀ v' w', w'.ownsRow base E size v' (n + m) (xs ++ news) → Below B w0 w' → W.grownBy w' v.ownBlock → MovedTo W v v' → wpList P ops Q rest (a.put o.dst v') w') :
    wpList P ops Q (o :: rest) a (W.alloc (.cells news.toArray E)) := by
  obtain ⟨i, hi, hz0, hz1, hz2⟩ := info_parts he.info
  have hgrow : ∀ w', (W.alloc (.cells news.toArray E)).grownBy w' v.ownBlock → W.grownBy w' v.ownBlock := fun w' h2 =>
    ⟨h2.os, h2.tape, h2.output, by have := h2.size; simp at this; omega, fun k hk hne => (h2.block k (by simp; omega) hne).trans (Below.heap_alloc _ _ _ hk)⟩
  have hrow : ∀ k, v.ownBlock = some k → B ≤ k := fun k hk => Nat.le_trans hB (hown.lt k hk).1
  have hnil : ∀ w', (W.alloc (.cells news.toArray E)).grownBy w' none → (W.alloc (.cells news.toArray E)).grownBy w' v.ownBlock := fun w' h2 =>
    ⟨h2.os, h2.tape, h2.output, h2.size, fun k hk _ => h2.block k hk (by simp)⟩
  have hbl : ∀ w', (W.alloc (.cells news.toArray E)).grownBy w' v.ownBlock → Below B w0 w' := fun w' h2 => (hbel.alloc (by omega) _).grown h2 (by simp; omega) hrow
  have hown2 := hown
  rcases hown.2 with ⟨hv, h0⟩ | ⟨g, cap, cur, hv, hb, hg, hc, hcm, hcs, ht⟩
  · subst h0
    have hxs : xs = [] := List.eq_nil_of_length_eq_zero (by simpa using hown.1)
    subst hxs
    refine wpList_append_grows _ hgd s x T hop E i z size bytes he.und hi hz0 hz1 hz2 hz hsz none 0 0 [] (hs.trans hv) (fun _ => ⟨rfl, rfl⟩) (by simp) (by intro _ h; cases h) ⟨W.heap.size, 0, none⟩ m m news hx hl (block_cells W news E) hy (by omega) (by unfold maxLen; omega) hbytes ?_
    intro v' w' h1 h2
    have h2' := hnil w' h2
    refine h v' w' (owns_base h1 (by simp; omega)) (hbl w' h2') (hgrow w' h2') (.inr fun g hg => ?_)
    have := (h1.lt g hg).1; simp at this; omega
  · by_cases hroom : n + m ≤ cap
    · rw [hv] at hown2
      refine wpList_append_fits _ hgd s x T hop base E i size he.und hi hz1 g n cap xs (hs.trans hv) (hown2.alloc _) ⟨W.heap.size, 0, none⟩ m m news hx hl (block_cells W news E) hy hroom ?_
      intro w' h1 h2
      have h2' : (W.alloc (.cells news.toArray E)).grownBy w' v.ownBlock := by rw [hv]; exact h2
      exact h _ w' h1 (hbl w' h2') (hgrow w' h2') (.inl (by rw [hv]; rfl))
    · refine wpList_append_grows _ hgd s x T hop E i z size bytes he.und hi hz0 hz1 hz2 hz hsz (some ⟨g, 0, none⟩) n cap xs (hs.trans hv) (by intro h; cases h) hown.1 ?_ ⟨W.heap.size, 0, none⟩ m m news hx hl (block_cells W news E) hy (by omega) (by unfold maxLen; omega) hbytes ?_
      · intro b hb' j u hu
        obtain rfl := Option.some.inj hb'
        exact (hown.alloc (.cells news.toArray E)).cells (g := g) (by rw [hv]; rfl) j u hu
      intro v' w' h1 h2
      have h2' := hnil w' h2
      refine h v' w' (owns_base h1 (by simp; omega)) (hbl w' h2') (hgrow w' h2') (.inr fun g hg => ?_)
      have := (h1.lt g hg).1; simp at this; omega

/-- two rows lie apart -/
def RowsApart (u v : Value) : Prop := ∀ g, u.ownBlock = some g → v.ownBlock ≠ some g
theorem RowsApart.symm {u v : Value} (h : RowsApart u v) : RowsApart v u := fun g hv hu => h g hu hv
theorem RowsApart.moved {W : World} {u v v' : Value} {base E size n : Nat} {xs : List Value} (h : RowsApart u v) (hu : W.ownsRow base E size u n xs) (hm : MovedTo W v v') : RowsApart u v' := by
  intro g hg
  rcases hm with hm | hm
  · rw [hm]; exact h g hg
  · intro hv
    have h1 := (hu.lt g hg).2
    have h2 := hm g hv
    omega
theorem owns_kept {W w' : World} {u v : Value} {base E size n : Nat} {xs : List Value} (hu : W.ownsRow base E size u n xs) (hg : W.grownBy w' v.ownBlock) (h : RowsApart u v) : w'.ownsRow base E size u n xs := by
  refine hu.kept hg ?_
  cases e : u.ownBlock with
  | none => exact .inl rfl
  | some g => exact .inr fun h2 => h g e h2.symm

/-! ### slices of integers that are read -/
def Reads (k : IntKind) (w : World) (v : Value) (xs : List Int) : Prop :=
  xs.length ≤ 4611686018427387904 ∧ ∃ ao cap, v = .slice ao xs.length cap ∧ xs.length ≤ cap ∧ cap ≤ maxLen ∧ ∀ i u, xs[i]? = some u → ∃ g off, ao = some ⟨g, off, none⟩ ∧ w.cell? ⟨g, off + i, none⟩ = some (.int k u)
theorem owns_reads {w : World} {base E : Nat} {v : Value} {k : IntKind} {xs : List Int} (h : w.ownsRow base E 1 v xs.length (xs.map (Value.int k))) (hl : xs.length ≤ 4611686018427387904) : Reads k w v xs := by
  refine ⟨hl, ?_⟩
  by_cases h0 : 0 < xs.length
  · obtain ⟨g, cap, rfl, _, _, hc, hm, hcell⟩ := owns_at h h0
    refine ⟨_, cap, rfl, hc, hm, fun i u hu => ⟨g, 0, rfl, ?_⟩⟩
    rw [Nat.zero_add]
    exact hcell i _ (by rw [List.getElem?_map, hu]; rfl)
  · have hx : xs = [] := List.eq_nil_of_length_eq_zero (by omega)
    subst hx
    rcases h.2 with ⟨rfl, _⟩ | ⟨g, cap, cur, rfl, _, _, hc, hm, _⟩
    · exact ⟨none, 0, rfl, Nat.le_refl _, Nat.zero_le _, fun i u hu => by simp at hu⟩
    · exact ⟨_, cap, rfl, hc, hm, fun i u hu => by simp at hu⟩
theorem Reads.later {k : IntKind} {w w' : World} {v : Value} {xs : List Int} (h : Reads k w v xs) {B : Nat} (hb : Below B w w') (hB : w.heap.size ≤ B) : Reads k w' v xs := by
  obtain ⟨hl, ao, cap, hv, hc, hm, hcell⟩ := h
  refine ⟨hl, ao, cap, hv, hc, hm, fun i u hu => ?_⟩
  obtain ⟨g, off, ha, hx⟩ := hcell i u hu
  have hlt := World.block_lt_of_cell? w _ hx
  exact ⟨g, off, ha, (hb.cell (p := ⟨g, off + i, none⟩) (by simp at hlt ⊢; omega)).trans hx⟩
end Go.Proofs.YtpncjpgjmpemiaaDoor
