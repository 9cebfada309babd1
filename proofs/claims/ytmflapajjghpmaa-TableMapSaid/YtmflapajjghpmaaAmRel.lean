/- How an abstract memory stands to the model's, and what the steps do. No program in sight. -/
import Derived.Test.YtmflapajjghpmaaAmBase
namespace Go.Proofs.Ytmflapajjghpmaa
open Go.RowKit

def EntryRel (β : Ren) (e e' : MapEntry) : Prop := flat2 e.key = true ∧ e'.key = e.key ∧ e'.born = e.born ∧ VR β e.val e'.val

def ObjOk (β : Ren) (w : World) (s : Spot) : AObj → Prop
  | .row cells elem esz own => own = s.own ∧ (∀ j v, cells[j]? = some v → ∃ v', w.cell? ⟨s.blk, s.shift + j, none⟩ = some v' ∧ VR β v v') ∧
      ((own || Nat.beq esz 0) = true → s.esz = esz ∧ ∃ c fz, w.heap[s.blk]? = some (.cells c elem fz) ∧ c.size = s.tot ∧ ∀ j, j < s.tot → (decide (fz.1 ≤ j) && decide (j < fz.2)) = false)
  | .map es clock => s.own = true ∧ ∃ es', w.heap[s.blk]? = some (.map es' clock) ∧ es'.size = es.length ∧ ∀ (j : Nat) (e e' : MapEntry), es[j]? = some e → es'[j]? = some e' → EntryRel β e e'
  | .iter t pos => s.own = true ∧ s.shift = 0 ∧ w.heap[s.blk]? = some (.stringIter t pos)

theorem ObjOk.own {β : Ren} {w : World} {s : Spot} {o : AObj} (h : ObjOk β w s o) : o.own = s.own := by
  cases o with
  | row c e z own => exact h.1
  | map es c => exact h.1.symm
  | iter t p => exact h.1.symm

theorem ObjOk.mono {β β' : Ren} {w w' : World} {s : Spot} {o : AObj} (h : ObjOk β w s o) (hb : β.le β') (hw : w'.heap[s.blk]? = w.heap[s.blk]?) : ObjOk β' w' s o := by
  cases o with
  | row cells elem esz own =>
    obtain ⟨h1, h2, h3⟩ := h
    refine ⟨h1, fun j v hj => ?_, fun ho => ?_⟩
    · obtain ⟨v', hv, hr⟩ := h2 j v hj
      exact ⟨v', (World.cell?_of_block (w := w) hw).trans hv, hr.mono hb⟩
    · obtain ⟨he, c, fz, hc, hs⟩ := h3 ho
      exact ⟨he, c, fz, hw.trans hc, hs⟩
  | map es clock =>
    obtain ⟨h1, es', h2, h3, h4⟩ := h
    refine ⟨h1, es', hw.trans h2, h3, fun j e e' a b => ?_⟩
    obtain ⟨q1, q2, q3, q4⟩ := h4 j e e' a b
    exact ⟨q1, q2, q3, q4.mono hb⟩
  | iter t pos => exact ⟨h.1, h.2.1, hw.trans h.2.2⟩

structure Rel (β : Ren) (H : AHeap) (w : World) : Prop where
  obj : ∀ i o s, H.get i = some o → β i = some s → ObjOk β w s o
  blk : ∀ i s, β i = some s → s.blk < w.heap.size
  apart : ∀ i j oi oj si sj, H.get i = some oi → H.get j = some oj → β i = some si → β j = some sj → i ≠ j → si.own = true → si.blk ≠ sj.blk
  fresh : ∀ i, H.next ≤ i → β i = none

def OwnB (β : Ren) (H : AHeap) (b : Nat) : Prop := ∃ i o s, H.get i = some o ∧ β i = some s ∧ s.own = true ∧ s.blk = b

def VisB (β : Ren) (H : AHeap) (b : Nat) : Prop := ∃ i o s, H.get i = some o ∧ β i = some s ∧ s.blk = b

structure Goes (β : Ren) (H : AHeap) (w : World) (β' : Ren) (H' : AHeap) (w' : World) : Prop where
  le : β.le β'
  rel : Rel β' H' w'
  os : w'.os = w.os
  tape : w'.tape = w.tape
  output : w'.output = w.output
  size : w.heap.size ≤ w'.heap.size
  keep : ∀ b, b < w.heap.size → ¬ OwnB β H b → w'.heap[b]? = w.heap[b]?
  own : ∀ b, b < w.heap.size → OwnB β' H' b → OwnB β H b
  vis : ∀ b, b < w.heap.size → VisB β' H' b → VisB β H b

theorem Goes.refl {β : Ren} {H : AHeap} {w : World} (h : Rel β H w) : Goes β H w β H w :=
  ⟨β.le_refl, h, rfl, rfl, rfl, Nat.le_refl _, fun _ _ _ => rfl, fun _ _ h => h, fun _ _ h => h⟩
theorem Goes.trans {β β1 β2 : Ren} {H H1 H2 : AHeap} {w w1 w2 : World} (h : Goes β H w β1 H1 w1) (k : Goes β1 H1 w1 β2 H2 w2) : Goes β H w β2 H2 w2 :=
  ⟨Ren.le_trans h.le k.le, k.rel, k.os.trans h.os, k.tape.trans h.tape, k.output.trans h.output, Nat.le_trans h.size k.size,
    fun b hb hn => (k.keep b (Nat.lt_of_lt_of_le hb h.size) (fun ho => hn (h.own b hb ho))).trans (h.keep b hb hn),
    fun b hb ho => h.own b hb (k.own b (Nat.lt_of_lt_of_le hb h.size) ho), fun b hb ho => h.vis b hb (k.vis b (Nat.lt_of_lt_of_le hb h.size) ho)⟩

/-- a draw -/
theorem Rel.drew {β : Ren} {H : AHeap} {w : World} (h : Rel β H w) : Rel β H w.drew :=
  ⟨fun i o s a b => (h.obj i o s a b).mono β.le_refl rfl, h.blk, h.apart, h.fresh⟩
theorem Goes.drew {β : Ren} {H : AHeap} {w : World} (h : Rel β H w) : Goes β H w β H w.drew :=
  ⟨β.le_refl, h.drew, rfl, rfl, rfl, Nat.le_refl _, fun _ _ _ => rfl, fun _ _ h => h, fun _ _ h => h⟩

/-- less is known -/
theorem Rel.less {β : Ren} {H G : AHeap} {w : World} (h : Rel β H w) (hg : ∀ i o s, G.get i = some o → β i = some s → H.get i = some o) (hn : ∀ i, G.next ≤ i → β i = none) : Rel β G w :=
  ⟨fun i o s a b => h.obj i o s (hg i o s a b) b, h.blk, fun i j oi oj si sj a b c d => h.apart i j oi oj si sj (hg _ _ _ a c) (hg _ _ _ b d) c d, hn⟩

/-- a new block -/
theorem Goes.alloc {β : Ren} {H : AHeap} {w : World} (h : Rel β H w) (id : Nat) (hid : β id = none) (O : Obj) (o : AObj) (s : Spot) (hs : s.blk = w.heap.size) (hown : s.own = true)
    (ho : ∀ β', β.le β' → β' id = some s → ObjOk β' (w.alloc O) s o) (next' : Nat) (hn : id < next') (hn' : H.next ≤ next') :
    Goes β H w (β.put id s) { H.add id o with next := next' } (w.alloc O) := by
  have hle : β.le (β.put id s) := β.le_put id s hid
  have hget : ∀ i, ({ H.add id o with next := next' } : AHeap).get i = if i = id then some o else H.get i := fun i => AHeap.get_add H id o i
  have hold : ∀ {i : Nat} {si : Spot}, β.put id s i = some si → (i = id ∧ si = s) ∨ (i ≠ id ∧ β i = some si) := by
    intro i si hi
    by_cases e : i = id
    · subst e; rw [Ren.put_same] at hi; cases hi; exact .inl ⟨rfl, rfl⟩
    · rw [Ren.put_other β s e] at hi; exact .inr ⟨e, hi⟩
  refine ⟨hle, ⟨?_, ?_, ?_, ?_⟩, rfl, rfl, rfl, by simp, fun b hb _ => Below.heap_alloc _ _ _ hb, ?_, ?_⟩
  · intro i oi si a b
    rw [hget] at a
    rcases hold b with ⟨rfl, rfl⟩ | ⟨e, b⟩
    · rw [if_pos rfl] at a; cases a; exact ho _ hle (Ren.put_same ..)
    · rw [if_neg e] at a
      exact (h.obj i oi si a b).mono hle (Below.heap_alloc _ _ _ (h.blk i si b))
  · intro i si b
    rcases hold b with ⟨rfl, rfl⟩ | ⟨e, b⟩
    · simp [hs]
    · have := h.blk i si b; simp; omega
  · intro i j oi oj si sj a b c d hij hso
    rw [hget] at a b
    rcases hold c with ⟨rfl, rfl⟩ | ⟨e, c⟩ <;> rcases hold d with ⟨rfl, rfl⟩ | ⟨e2, d⟩
    · exact absurd rfl hij
    · have := h.blk _ _ ‹β j = some sj›; omega
    · have := h.blk _ _ ‹β i = some si›; omega
    · rw [if_neg e] at a; rw [if_neg e2] at b
      exact h.apart i j oi oj si sj a b c d hij hso
  · intro i hi
    have hi : next' ≤ i := hi
    rw [Ren.put_other β s (by omega)]
    exact h.fresh i (by omega)
  · rintro b hb ⟨i, oi, si, a, c, d, e⟩
    rw [hget] at a
    rcases hold c with ⟨rfl, rfl⟩ | ⟨e2, c⟩
    · omega
    · rw [if_neg e2] at a; exact ⟨i, oi, si, a, c, d, e⟩
  · rintro b hb ⟨i, oi, si, a, c, e⟩
    rw [hget] at a
    rcases hold c with ⟨rfl, rfl⟩ | ⟨e2, c⟩
    · omega
    · rw [if_neg e2] at a; exact ⟨i, oi, si, a, c, e⟩

/-- an object is changed where it lies -/
theorem Goes.upd {β : Ren} {H : AHeap} {w : World} (h : Rel β H w) {i : Nat} {o o' : AObj} {s : Spot} (hi : H.get i = some o) (hs : β i = some s) (hown : s.own = true) (w' : World)
    (hos : w'.os = w.os) (htp : w'.tape = w.tape) (hout : w'.output = w.output) (hsz : w'.heap.size = w.heap.size) (hk : ∀ b, b ≠ s.blk → w'.heap[b]? = w.heap[b]?) (ho : ObjOk β w' s o') :
    Goes β H w β (H.upd i (some o')) w' := by
  have hget : ∀ j, (H.upd i (some o')).get j = if j = i then some o' else H.get j := fun j => AHeap.get_upd H i (some o') j
  have hne : ∀ j oj sj, H.get j = some oj → β j = some sj → j ≠ i → sj.blk ≠ s.blk := fun j oj sj a b e => (h.apart i j o oj s sj hi a hs b (Ne.symm e) hown).symm
  refine ⟨β.le_refl, ⟨?_, ?_, ?_, h.fresh⟩, hos, htp, hout, by omega, fun b hb hn => hk b fun e => hn ⟨i, o, s, hi, hs, hown, e.symm⟩, ?_, ?_⟩
  · intro j oj sj a b
    rw [hget] at a
    by_cases e : j = i
    · subst e; rw [if_pos rfl] at a; cases a; rw [hs] at b; cases b; exact ho
    · rw [if_neg e] at a; exact (h.obj j oj sj a b).mono β.le_refl (hk _ (hne j oj sj a b e))
  · intro j sj b; have := h.blk j sj b; omega
  · intro j k oj ok sj sk a b c d hjk hso
    rw [hget] at a b
    have hj : ∃ oj, H.get j = some oj := by by_cases e : j = i <;> simp [e] at a <;> first | exact ⟨o, e ▸ hi⟩ | exact ⟨_, a⟩
    have hk : ∃ ok, H.get k = some ok := by by_cases e : k = i <;> simp [e] at b <;> first | exact ⟨o, e ▸ hi⟩ | exact ⟨_, b⟩
    obtain ⟨oj', hj⟩ := hj; obtain ⟨ok', hk⟩ := hk
    exact h.apart j k oj' ok' sj sk hj hk c d hjk hso
  · rintro b hb ⟨j, oj, sj, a, c, d, e⟩
    rw [hget] at a
    by_cases e2 : j = i
    · subst e2; exact ⟨j, o, sj, hi, c, d, e⟩
    · rw [if_neg e2] at a; exact ⟨j, oj, sj, a, c, d, e⟩
  · rintro b hb ⟨j, oj, sj, a, c, e⟩
    rw [hget] at a
    by_cases e2 : j = i
    · subst e2; exact ⟨j, o, sj, hi, c, e⟩
    · rw [if_neg e2] at a; exact ⟨j, oj, sj, a, c, e⟩

/-- an object is forgotten -/
theorem Goes.kill {β : Ren} {H : AHeap} {w : World} (h : Rel β H w) (i : Nat) : Goes β H w β (H.upd i none) w := by
  have hget : ∀ j o, (H.upd i none).get j = some o → H.get j = some o := fun j o hj => by
    rw [AHeap.get_upd] at hj
    by_cases e : j = i
    · simp [e] at hj
    · rwa [if_neg e] at hj
  exact ⟨β.le_refl, h.less (fun j o _ a _ => hget j o a) h.fresh, rfl, rfl, rfl, Nat.le_refl _, fun _ _ _ => rfl, fun b _ ⟨j, o, s, a, c⟩ => ⟨j, o, s, hget j o a, c⟩, fun b _ ⟨j, o, s, a, c⟩ => ⟨j, o, s, hget j o a, c⟩⟩

/-- one cell is written -/
theorem Goes.store {β : Ren} {H : AHeap} {w : World} (h : Rel β H w) {i j : Nat} {cells : List Value} {elem : TypeId} {esz : Nat} {s : Spot} {v v' : Value} (hi : H.get i = some (.row cells elem esz true)) (hs : β i = some s) (hj : j < cells.length) (hv : VR β v v') :
    Goes β H w β (H.upd i (some (.row (cells.set j v) elem esz true))) (w.setCell ⟨s.blk, s.shift + j, none⟩ v') := by
  obtain ⟨h1, h2, h3⟩ := h.obj _ _ _ hi hs
  obtain ⟨he, c, fz, hc, hz, hf⟩ := h3 rfl
  refine Goes.upd h hi hs h1.symm _ rfl rfl rfl (by simp) (fun b hb => Below.heap_setCell _ _ _ _ hb) ⟨h1, fun k u hk => ?_, fun _ => ⟨he, c.setIfInBounds (s.shift + j) v', fz, ?_, by simpa using hz, hf⟩⟩
  · obtain ⟨u0, hu0, _⟩ := h2 j (cells[j]) (by simp [hj])
    rw [List.getElem?_set] at hk
    by_cases e : j = k
    · subst e
      rw [if_pos rfl, if_pos hj] at hk; cases hk
      exact ⟨v', World.cell?_setCell_same w _ _ hu0, hv⟩
    · rw [if_neg e] at hk
      obtain ⟨u', hu, hr⟩ := h2 k u hk
      refine ⟨u', ?_, hr⟩
      rw [World.cell?_setCell_other w _ _ _ (by intro e2; injection e2 with _ e3 _; omega)]
      exact hu
  · simp only [World.setCell, Array.getElem?_modify, if_true, hc, Option.map_some]; rfl

/-- a map or an iterator is written -/
theorem Goes.setObj {β : Ren} {H : AHeap} {w : World} (h : Rel β H w) {i : Nat} {o o' : AObj} {s : Spot} (hi : H.get i = some o) (hs : β i = some s) (hown : s.own = true) (O : Obj)
    (ho : ∀ w' : World, w'.heap[s.blk]? = some O → ObjOk β w' s o') :
    Goes β H w β (H.upd i (some o')) { w with heap := w.heap.setIfInBounds s.blk O } := by
  have hb := h.blk i s hs
  refine Goes.upd h hi hs hown _ rfl rfl rfl (by simp) (fun b hb => ?_) (ho _ ?_)
  · simp [Array.getElem?_setIfInBounds_ne (Ne.symm hb)]
  · simp [hb]

/-- for the whole call: what was there is as it was -/
theorem Goes.below {β β' : Ren} {H H' : AHeap} {w w' : World} (h : Goes β H w β' H' w') (hno : ∀ i s, β i = some s → s.own = false) : Below w.heap.size w w' :=
  ⟨h.os, h.tape, h.output, h.size, fun b hb => h.keep b hb fun ⟨i, o, s, _, b, c, _⟩ => by rw [hno i s b] at c; cases c⟩

/-- of what a guest call has made nothing is left -/
theorem Goes.forget {β β' : Ren} {H H' : AHeap} {w w' : World} (h : Goes β H w β' H' w') (hr : Rel β H w) (hk : ∀ i o, H.get i = some o → (∃ s, β i = some s) → H'.get i = some o) : Goes β H w β H w' := by
  refine ⟨β.le_refl, ⟨?_, ?_, hr.apart, hr.fresh⟩, h.os, h.tape, h.output, h.size, h.keep, fun _ _ h => h, fun _ _ h => h⟩
  · intro i o s a b
    have h1 := hr.obj i o s a b
    have h2 := h.rel.obj i o s (hk i o a ⟨s, b⟩) (h.le i s b)
    cases o with
    | row cells elem esz own =>
      refine ⟨h1.1, fun j v hj => ?_, h2.2.2⟩
      obtain ⟨v1, _, r1⟩ := h1.2.1 j v hj
      obtain ⟨v2, c2, r2⟩ := h2.2.1 j v hj
      exact ⟨v2, c2, r1.back h.le r2⟩
    | map es clock =>
      obtain ⟨p1, es1, p2, p3, p4⟩ := h1
      obtain ⟨q1, es2, q2, q3, q4⟩ := h2
      refine ⟨p1, es2, q2, q3, fun j e e' he he' => ?_⟩
      have hj := (List.getElem?_eq_some_iff.1 he).1
      obtain ⟨_, _, _, r1⟩ := p4 j e (es1[j]'(by omega)) he (by simp)
      obtain ⟨a1, a2, a3, r2⟩ := q4 j e e' he he'
      exact ⟨a1, a2, a3, r1.back h.le r2⟩
    | iter t pos => exact ⟨h1.1, h1.2.1, h2.2.2⟩
  · intro i s b
    have := h.rel.blk i s (h.le i s b); exact this
end Go.Proofs.Ytmflapajjghpmaa
