/- LibInstalls: where the listed variables are laid, the world is not empty. -/
import Derived.Test.YtmkmdppjfdphnaaGreatDoorRows
import Derived.Stop.LaidErr
import Derived.LaidLaws
namespace Go.Proofs.YtmkmdppjfdphnaaGreatDoor
open Go.RowKit
theorem li_size (W : World) (hL : laidMet Tryz.prog Rows.libInstallsRow.laid W) : 0 < W.heap.size := by
  obtain ⟨ps, ⟨g0, t0, cs0, f0, p0, q0, hg0, ht0, hv0, hd0, _, e0⟩, _, hrows⟩ := hL
  rcases Nat.eq_zero_or_pos W.heap.size with h | h
  · exfalso
    have hn : ∀ i : Nat, W.heap[i]? = none := fun i => Array.getElem?_eq_none (by omega)
    unfold World.var? at hv0
    rw [hg0] at hv0
    simp [hn] at hv0
  · exact h
end Go.Proofs.YtmkmdppjfdphnaaGreatDoor
