/- A slice within a struct argument: what the reading's shape says of it. No program in sight. -/
import Derived.Test.YteomehedmfemiaaRowStruct
set_option linter.unusedSimpArgs false
set_option linter.unusedVariables false
namespace Go.Proofs.Yteomehedmfemiaa
open Go.RowKit Go.ChangeShapes Go.WideShapes Go.Deep
theorem part_slice {P : Program} {w : World} {b : Nat} {t u e : TypeId} {fs : Array Field} {cs : Array Value} {ts : List TypeId} {i : Nat} {v : Value} (ht : P.underlying t = some (.struct fs)) (h : Value.okWide P w .any b t (.agg cs))
    (hts : P.cellTypes P.depth t = some ts) (hi : ts[i]? = some u) (hv : cs[i]? = some v) (hu : P.underlying u = some (.slice e)) : Value.okWide P w .any b u v := by
  simp only [Value.okWide, ht] at h
  obtain ⟨cs', h1, _, ts', h3, _, h4⟩ := h
  cases h1
  rw [hts] at h3; cases h3
  obtain ⟨u', h5, h6⟩ := h4 i v hv
  rw [Nat.mod_eq_of_lt (List.getElem?_eq_some_iff.1 hi).1, hi] at h5; cases h5
  simp only [Value.okWide, hu]; exact h6
/-- a slice is not longer than its reading -/
theorem slice_len {H : Type} {enc : TypeId × Value → H} {P : Program} {w : World} {base : Nat} {spare : Nat → Bool} {held : Bool} {t e : TypeId} {a : Option Addr} {len cap : Nat} {d : DataW H} {p : List MemPlace} (ht : P.underlying t = some (.slice e)) (h : DataW.Trod enc P w base spare held t (.slice a len cap) d p) :
    len = 0 ∨ ∃ el sp, d = .slice el sp ∧ len ≤ el.length := by
  obtain ⟨fuel, h⟩ := h
  rcases open_slice ht h with ⟨hcs, _⟩ | ⟨x, len', cap', m, n, D, Pl, hcs, hb, hle, hcap, hmm, hx, hi⟩
  · have hcs : [Value.slice a len cap] = [.slice none 0 0] := hcs
    cases hcs; exact .inl rfl
  · have hcs : [Value.slice a len cap] = [.slice (some x) len' cap'] := hcs
    cases hcs
    cases hx
    exact .inr ⟨_, _, rfl, by simp⟩
/-- a field of one cell, read -/
theorem part_trod {H : Type} {enc : TypeId × Value → H} {P : Program} {w : World} {base : Nat} {spare : Nat → Bool} {held : Bool} {t : TypeId} {fs : Array Field} {cs : Array Value} {d : DataW H} {p : List MemPlace} (ht : P.underlying t = some (.struct fs)) (h : DataW.Trod enc P w base spare held t (.agg cs) d p) :
    ∃ parts : List (DataW H), d = .agg parts ∧ ∀ (i : Nat) (f : Field) (v : Value), fs[i]? = some f → f.offset = i → P.cellsOf f.type = 1 → cs[i]? = some v → ∃ (y : DataW H × List MemPlace) (n : Nat), y.1 ∈ parts ∧ DataW.trod enc P w base spare held n f.type [v] = some y := by
  obtain ⟨fuel, h⟩ := h
  obtain ⟨xs, n, _, hx, hl, hlen, hf⟩ := DataW.trod_struct ht h
  cases hx
  refine ⟨_, rfl, fun i f v hfi ho hc hv => ?_⟩
  have h1 := hf i f hfi
  have hi : i < fs.size := (Array.getElem?_eq_some_iff.1 hfi).1
  rw [ho, hc, List.getElem?_eq_getElem (by omega)] at h1
  have hv' : cs.toList[i]? = some v := by rw [← hv]; simp
  obtain ⟨hlt, he⟩ := List.getElem?_eq_some_iff.1 hv'
  have h2 : (cs.toList.drop i).take 1 = [v] := by rw [List.drop_eq_getElem_cons hlt, he]; rfl
  exact ⟨xs[i]'(by omega), n, List.mem_map.2 ⟨_, List.getElem_mem _, rfl⟩, (by rw [← h2]; exact h1)⟩
/-- a slice of numbers -/
theorem int_row {H : Type} {enc : TypeId × Value → H} {P : Program} {w : World} {base b0 : Nat} {spare : Nat → Bool} {held : Bool} {t e : TypeId} {k : IntKind} {v : Value} {d : DataW H} {p : List MemPlace} (ht : P.underlying t = some (.slice e)) (he : P.underlying e = some (.int k)) (hC : P.cellsOf e = 1)
    (h : DataW.Trod enc P w base spare held t v d p) (hv : Value.okWide P w .any b0 t v) : ∃ (a : Option Addr) (len cap : Nat) (zs : List Int), v = .slice a len cap ∧ zs.length = len ∧ CellRow w a len cap (zs.map (.int k)) := by
  obtain ⟨a, len, cap, rfl⟩ := okWide_slice ht hv
  obtain ⟨fuel, h⟩ := h
  rcases open_slice ht h with ⟨hcs, _⟩ | ⟨x, len', cap', m, n, D, Pl, hcs, hb, hle, hcap, hmm, _, hi⟩
  · have hcs : [Value.slice a len cap] = [.slice none 0 0] := hcs
    cases hcs
    exact ⟨_, _, _, [], rfl, rfl, .inl ⟨rfl, rfl, rfl, rfl⟩⟩
  · have hcs : [Value.slice a len cap] = [.slice (some x) len' cap'] := hcs
    cases hcs
    have hlm : len ≤ m := by rw [hmm]; split <;> omega
    have key : ∀ i, i < len → ∃ y : Int, w.cell? (x.add i) = some (.int k y) := by
      intro i hil
      obtain ⟨cs', hc, ht'⟩ := hi i (by omega)
      rw [hC] at hc
      obtain ⟨y, rfl, _, _⟩ := DataW.trod_int he ht'
      obtain ⟨_, hcl, hat⟩ := World.cells?_some hc
      have hcell := hat 0 (by decide)
      rw [add_add, Nat.mul_one, Nat.add_zero] at hcell
      exact ⟨y, hcell⟩
    obtain ⟨zs, h1, h2⟩ := list_of len key
    have hb := has_block ht hv
    refine ⟨_, _, _, zs, rfl, h1, .inr ⟨x, rfl, hle, hcap, fun i u hu => ?_, hb.1, hb.2⟩⟩
    rw [List.getElem?_map] at hu
    obtain ⟨y, hy, rfl⟩ := Option.map_eq_some_iff.1 hu
    exact h2 i y hy
end Go.Proofs.Yteomehedmfemiaa
