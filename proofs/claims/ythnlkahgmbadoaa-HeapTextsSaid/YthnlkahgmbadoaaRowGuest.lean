/- A slice of integers that a law is handed, as its row's proof tells of it. -/
import Derived.WalkKit
import Derived.ProofKit
import Derived.WideShapes
namespace Go.Proofs.Ythnlkahgmbadoaa
open Go.RowKit
set_option linter.unusedSimpArgs false
set_option linter.unusedVariables false
/-- a slice of integers that came in: nil, or it leads to a row of 'cap' cells -/
def GuestRow (w : World) (a : Option Addr) (len cap : Nat) (zs : List Int) : Prop :=
  (a = none ∧ len = 0 ∧ cap = 0 ∧ zs = []) ∨
  ∃ x, a = some x ∧ len ≤ cap ∧ cap ≤ maxLen ∧ zs.length = cap ∧ (∀ i, i < zs.length → w.cell? (x.add i) = some (.int .i64 (zs.getD i 0))) ∧ (∀ n ∈ zs, (Lit.int .i64 n).wf = true) ∧ x.spot = none ∧ x.block < w.heap.size
theorem has_block {P : Program} {w : World} {base : Nat} {e : TypeId} {t : TypeId} {x : Addr} {len cap : Nat} (ht : P.underlying t = some (.slice e)) (h : Value.okWide P w .any base t (.slice (some x) len cap)) : x.spot = none ∧ x.block < w.heap.size := by
  simp only [Value.okWide, ht, Cell.okWide, Cell.ok, World.has] at h
  obtain ⟨_, _, _, hs, row, cells, hsh, _⟩ := h
  refine ⟨hs, ?_⟩
  unfold World.shape? at hsh
  rcases Nat.lt_or_ge x.block w.heap.size with h | h
  · exact h
  · rw [Array.getElem?_eq_none h] at hsh
    simp at hsh
end Go.Proofs.Ythnlkahgmbadoaa
