/- Pool: plain laws on rows of numbers. -/
import Derived.Test.YthnlkahgmbadoaaPmIn
namespace Go.Proofs.Ythnlkahgmbadoaa
open Go.RowKit
set_option linter.unusedSimpArgs false
set_option linter.unusedVariables false
set_option maxRecDepth 100000

theorem ints_set (l : List Int) (rest : List Value) (k : Nat) (x : Int) (hk : k < l.length) : (l.map (Value.int .i64) ++ rest).set k (.int .i64 x) = (l.set k x).map (Value.int .i64) ++ rest := by
  rw [List.set_append_left _ _ (by simpa using hk), List.map_set]
theorem ints_at (l : List Int) (rest : List Value) (k : Nat) (hk : k < l.length) : (l.map (Value.int .i64) ++ rest)[k]? = some (.int .i64 (l.getD k 0)) := by
  rw [List.getElem?_append_left (by simpa using hk), List.getElem?_map, List.getElem?_eq_getElem hk]
  simp [List.getD, hk]
theorem wrap_pred1 (k : Nat) (h : 0 < k) (h2 : k < 1000000000) : IntKind.i64.wrap (Int.ofNat k - 1) = Int.ofNat (k - 1) := by
  rw [show Int.ofNat k - 1 = ((k - 1 : Nat) : Int) from by simp only [Int.ofNat_eq_natCast]; omega]
  exact wrap_small _ (by omega) (by omega)
theorem wrap_half (k : Nat) (h2 : k < 1000000000) : IntKind.i64.wrap ((Int.ofNat k).tdiv 2) = Int.ofNat (k / 2) := by
  rw [show (Int.ofNat k).tdiv 2 = ((k / 2 : Nat) : Int) from by simp only [Int.ofNat_eq_natCast]; rfl]
  exact wrap_small _ (by omega) (by omega)
end Go.Proofs.Ythnlkahgmbadoaa
