/- A slice of bools that a law is handed. -/
import Derived.Test.YtdfadipfhcikdaaGreatDoorRowStruct
namespace Go.Proofs.YtdfadipfhcikdaaGreatDoor
open Go.RowKit Go.ChangeShapes Go.WideShapes Go.Deep
set_option linter.unusedSimpArgs false
set_option linter.unusedVariables false
/-- a slice of bools -/
theorem bool_row {H : Type} {enc : TypeId × Value → H} {P : Program} {w : World} {base b0 : Nat} {spare : Nat → Bool} {held : Bool} {t e : TypeId} {v : Value} {d : DataW H} {p : List MemPlace} (ht : P.underlying t = some (.slice e)) (he : P.underlying e = some .bool)
    (hC : P.cellsOf e = 1) (h : DataW.Trod enc P w base spare held t v d p) (hv : Value.okWide P w .any b0 t v) :
    ∃ (a : Option Addr) (len cap : Nat) (zs : List Bool), v = .slice a len cap ∧ zs.length = len ∧ CellRow w a len cap (zs.map Value.bool) := by
  obtain ⟨a, len, cap, rfl⟩ := okWide_slice ht hv
  obtain ⟨fuel, h⟩ := h
  rcases open_slice1 ht hC h with ⟨hcs, _⟩ | ⟨x, len', cap', m, n, V, D, Pl, hcs, hb, hle, hcap, hmm, _, hi⟩
  · have hcs : [Value.slice a len cap] = [.slice none 0 0] := hcs
    cases hcs
    exact ⟨_, _, _, [], rfl, rfl, .inl ⟨rfl, rfl, rfl, rfl⟩⟩
  · have hcs : [Value.slice a len cap] = [.slice (some x) len' cap'] := hcs
    cases hcs
    have hlm : len ≤ m := by rw [hmm]; split <;> omega
    obtain ⟨zs, h1, h2⟩ := list_of (Q := fun i (s : Bool) => w.cell? (x.add i) = some (.bool s)) len fun i hil => by
      obtain ⟨hc, hd⟩ := hi i (by omega)
      obtain ⟨s, e1, _⟩ := DataW.trod_bool he hd
      simp only [List.cons.injEq, and_true] at e1
      rw [e1] at hc
      exact ⟨s, hc⟩
    have hb := has_block ht hv
    refine ⟨_, _, _, zs, rfl, h1, .inr ⟨x, rfl, hle, hcap, fun i u hu => ?_, hb.1, hb.2⟩⟩
    rw [List.getElem?_map] at hu
    obtain ⟨s, hs, rfl⟩ := Option.map_eq_some_iff.1 hu
    exact h2 i s hs
end Go.Proofs.YtdfadipfhcikdaaGreatDoor
