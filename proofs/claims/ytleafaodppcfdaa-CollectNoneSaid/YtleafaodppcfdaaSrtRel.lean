/- Rows that a call has made become blocks of the machine's. -/
import Derived.Test.YtleafaodppcfdaaHpVals
set_option linter.unusedSimpArgs false
set_option linter.unusedVariables false
namespace Go.Proofs.Ytleafaodppcfdaa
open Go.RowKit Go.Sort

theorem goes_fresh {β : Ren} {H : AHeap} {w W : World} (hr : Rel β H w) (G : Goes β H w β H W) {s : Spot} {o : AObj} (hown : s.own = true) (ho : ∀ β', ObjOk β' W s o) (hlo : w.heap.size ≤ s.blk) (hhi : s.blk < W.heap.size) (hap : ∀ k ok sk, H.get k = some ok → β k = some sk → sk.blk ≠ s.blk) :
    Goes β H w (β.put H.next s) { H.add H.next o with next := H.next + 1 } W := by
  have hle : β.le (β.put H.next s) := β.le_put H.next s (hr.fresh _ (Nat.le_refl _))
  have hget : ∀ i, ({ H.add H.next o with next := H.next + 1 } : AHeap).get i = if i = H.next then some o else H.get i := fun i => AHeap.get_add H H.next o i
  have hold : ∀ {i : Nat} {si : Spot}, β.put H.next s i = some si → (i = H.next ∧ si = s) ∨ (i ≠ H.next ∧ β i = some si) := by
    intro i si hi
    by_cases e : i = H.next
    · subst e; rw [Ren.put_same] at hi; cases hi; exact .inl ⟨rfl, rfl⟩
    · rw [Ren.put_other β s e] at hi; exact .inr ⟨e, hi⟩
  refine ⟨hle, ⟨?_, ?_, ?_, ?_⟩, G.os, G.tape, G.output, G.size, G.keep, ?_, ?_⟩
  · intro i oi si a b
    rw [hget] at a
    rcases hold b with ⟨rfl, rfl⟩ | ⟨e, b⟩
    · rw [if_pos rfl] at a; cases a; exact ho _
    · rw [if_neg e] at a
      exact (G.rel.obj i oi si a b).mono hle rfl
  · intro i si b
    rcases hold b with ⟨rfl, rfl⟩ | ⟨e, b⟩
    · exact hhi
    · exact G.rel.blk i si b
  · intro i j oi oj si sj a b c d hij hso
    rw [hget] at a b
    rcases hold c with ⟨rfl, rfl⟩ | ⟨e, c⟩ <;> rcases hold d with ⟨rfl, rfl⟩ | ⟨e2, d⟩
    · exact absurd rfl hij
    · rw [if_neg e2] at b; exact (hap _ _ _ b d).symm
    · rw [if_neg e] at a; exact hap _ _ _ a ‹β i = some si›
    · rw [if_neg e] at a; rw [if_neg e2] at b
      exact G.rel.apart i j oi oj si sj a b c d hij hso
  · intro i hi
    have hi : H.next + 1 ≤ i := hi
    rw [Ren.put_other β s (by omega)]
    exact hr.fresh i (by omega)
  · rintro b hb ⟨i, oi, si, a, c, d, e⟩
    rw [hget] at a
    rcases hold c with ⟨rfl, rfl⟩ | ⟨e2, c⟩
    · omega
    · rw [if_neg e2] at a; exact ⟨i, oi, si, a, c, d, e⟩
  · rintro b hb ⟨i, oi, si, a, c, e⟩
    rw [hget] at a
    rcases hold c with ⟨rfl, rfl⟩ | ⟨e2, c⟩
    · omega
    · rw [if_neg e2] at a; exact ⟨i, oi, si, a, c, e⟩

/-- a row that the library has made -/
theorem goes_row {β : Ren} {H : AHeap} {w W : World} (hr : Rel β H w) (hb : Below w.heap.size w W) {g cap : Nat} {T : TypeId} {cur : Array Value} {xs : List Int} (hg : w.heap.size ≤ g) (hc : W.heap[g]? = some (.cells cur T (0, 0))) (hs : cur.size = cap * 1) (hx : cur.toList.take (xs.length * 1) = xs.map zv) :
    Goes β H w (β.put H.next ⟨g, 0, 1, cap, true⟩) { H.add H.next (.row (xs.map zv) T 1 true) with next := H.next + 1 } W := by
  refine goes_fresh hr (goes_below hr hb) rfl (fun β' => ⟨rfl, fun j v hj => ?_, fun _ => ⟨rfl, cur, (0, 0), hc, by simpa using hs, fun j _ => by simp⟩⟩) hg (Array.getElem?_eq_some_iff.1 hc).1 fun k ok sk hk hsk => by have := hr.blk k sk hsk; show sk.blk ≠ g; omega
  rw [List.getElem?_map] at hj
  obtain ⟨x, hxj, rfl⟩ := Option.map_eq_some_iff.1 hj
  have hlt := (List.getElem?_eq_some_iff.1 hxj).1
  refine ⟨zv x, ?_, .int _ _⟩
  unfold World.cell?
  simp only [hc, Nat.zero_add]
  have h1 : (cur.toList.take (xs.length * 1))[j]? = some (zv x) := by rw [hx, List.getElem?_map, hxj]; rfl
  rw [List.getElem?_take_of_lt (by omega), Array.getElem?_toList] at h1
  exact h1

/-- behind a call of the machine's that has kept what there was: its result's row alone is held -/
theorem goes_keepRow {β β' : Ren} {H H3 : AHeap} {w W : World} (hr : Rel β H w) (G : Goes β H w β' H3 W) (hk : ∀ i, i < H.next → H3.get i = H.get i) {j : Nat} {s : Spot} {l : List (Int × Int)} {T z : Nat} (hj : H3.get j = some (.row (kvCells l) T z true)) (hs : β' j = some s) (hjn : H.next ≤ j) :
    Goes β H w (β.put H.next s) { H.add H.next (.row (kvCells l) T z true) with next := H.next + 1 } W := by
  have hlt : ∀ i si, β i = some si → i < H.next := fun i si hi => by
    rcases Nat.lt_or_ge i H.next with h | h
    · exact h
    · rw [hr.fresh i h] at hi; cases hi
  have hkk : ∀ i o si, H.get i = some o → β i = some si → H3.get i = some o := fun i o si hi hb => by rw [hk i (hlt i si hb)]; exact hi
  have F := G.forget hr (fun i o hi ⟨si, hb⟩ => hkk i o si hi hb)
  have hO := G.rel.obj _ _ _ hj hs
  have hown := hO.1.symm
  have hap : ∀ k ok sk, H.get k = some ok → β k = some sk → sk.blk ≠ s.blk := fun k ok sk a b =>
    (G.rel.apart j k _ ok s sk hj (hkk k ok sk a b) hs (G.le _ _ b) (by have := hlt k sk b; omega) hown).symm
  refine goes_fresh hr F hown (fun β2 => ⟨hO.1, fun q v hq => ?_, hO.2.2⟩) ?_ (G.rel.blk _ _ hs) hap
  · obtain ⟨v', h1, h2⟩ := hO.2.1 q v hq
    refine ⟨v', h1, ?_⟩
    have hm := List.mem_of_getElem? hq
    unfold kvCells at hm
    obtain ⟨p, _, hp⟩ := List.mem_flatMap.1 hm
    simp only [List.mem_cons, List.not_mem_nil, or_false] at hp
    rcases hp with rfl | rfl <;> cases h2 <;> exact .int _ _
  · rcases Nat.lt_or_ge s.blk w.heap.size with h | h
    · obtain ⟨k, ok, sk, a, b, _, e⟩ := G.own s.blk h ⟨j, _, s, hj, hs, hown, rfl⟩
      exact absurd e (hap k ok sk a b)
    · exact h
end Go.Proofs.Ytleafaodppcfdaa
