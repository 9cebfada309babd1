/- A law's list of values, grown by append. -/
import Derived.Test.YthnlkahgmbadoaaHmAdd3
namespace Go.Proofs.Ythnlkahgmbadoaa
open Go.RowKit
set_option linter.unusedSimpArgs false
set_option linter.unusedVariables false
set_option maxRecDepth 100000

theorem vv_lenL (l : List VV) : (vvCells l).length = l.length * 2 := by
  induction l with
  | nil => rfl
  | cons v l ih => show (_ :: _ :: vvCells l).length = _; simp only [List.length_cons, ih]; omega
theorem vv_snoc (l : List VV) (v : VV) : vvCells (l ++ [v]) = vvCells l ++ [.int .u8 v.1, .int .i64 v.2] := by
  simp only [vvCells, List.flatMap_append, List.flatMap_cons, List.flatMap_nil, List.append_nil]
theorem vv_at {l : List VV} {k : Nat} (h : k < l.length) : cut (vvCells l) (k * 2) 2 = some [.int .u8 (l[k]).1, .int .i64 (l[k]).2] := by
  have e : vvCells l = vvCells (l.take k) ++ ([.int .u8 (l[k]).1, .int .i64 (l[k]).2] ++ vvCells (l.drop (k + 1))) := by
    have h1 : l = l.take k ++ (l[k] :: l.drop (k + 1)) := by rw [← List.drop_eq_getElem_cons h, List.take_append_drop]
    conv => lhs; rw [h1]
    simp only [vvCells, List.flatMap_append, List.flatMap_cons, List.append_assoc]
  exact cut_in rfl _ _ (by rw [vv_lenL, List.length_take, Nat.min_eq_left (by omega)]) e
theorem build_v1 : ∀ (a b : Int) fid H, buildSliceV Try.prog 37 1 [(0, .agg #[.int .u8 a, .int .i64 b])] fid H = some (.slice (some ⟨fid, 0, none⟩) 1 2, newRowA fid [.int .u8 a, .int .i64 b] 30 2 H) := fun a b fid H => by kernel_rfl
theorem app_v1 : appOf Try.prog 37 37 = some (30, 2, 16) := by kernel_rfl
theorem vlist_nil (v : VV) : ∀ (o : Tr AObj) (nx : Nat) (lg : List Nat) (fid q : Nat), o.get q = some (.row [.int .u8 v.1, .int .i64 v.2] 30 2 true) →
    aAppend Try.prog 37 37 (.slice none 0 0) (.slice (some ⟨q, 0, none⟩) 1 2) fid ⟨o, nx, lg⟩ = some (.slice (some ⟨fid, 0, none⟩) 1 0, ⟨o.put fid (some (.row (vvCells [v]) 30 2 true)), nx, lg⟩) := by
  intro o nx lg fid q hq
  have hadd : addCells 2 (.slice (some ⟨q, 0, none⟩) 1 2) ⟨o, nx, lg⟩ = some (0 + 1, [.int .u8 v.1, .int .i64 v.2]) := by
    simp only [addCells, qH, hq]; rfl
  rw [app_none app_v1 hadd rfl]; rfl
theorem vlist_row (v : VV) {l : List VV} {k : Nat} (hk : l.length = k) (hl : k < 1000) : ∀ (o : Tr AObj) (nx : Nat) (lg : List Nat) (fid q j : Nat), o.get q = some (.row [.int .u8 v.1, .int .i64 v.2] 30 2 true) → o.get j = some (.row (vvCells l) 30 2 true) →
    aAppend Try.prog 37 37 (.slice (some ⟨j, 0, none⟩) k 0) (.slice (some ⟨q, 0, none⟩) 1 2) fid ⟨o, nx, lg⟩ = some (.slice (some ⟨fid, 0, none⟩) (k + 1) 0, ⟨(o.put j none).put fid (some (.row (vvCells (l ++ [v])) 30 2 true)), nx, noteId j lg⟩) := by
  intro o nx lg fid q j hq hj
  have hadd : addCells 2 (.slice (some ⟨q, 0, none⟩) 1 2) ⟨o, nx, lg⟩ = some (0 + 1, [.int .u8 v.1, .int .i64 v.2]) := by
    simp only [addCells, qH, hq]; rfl
  have hr : roomOk (k + (0 + 1)) 16 = true := by unfold roomOk; rw [Bool.and_eq_true, Nat.ble_eq, Nat.ble_eq]; omega
  rw [app_row app_v1 hadd hj (show cut (vvCells l) 0 (k * 2) = some (vvCells l) from cut_in (by rw [vv_lenL]; omega) [] [] rfl (by simp)) hr rfl, vv_snoc]; rfl
end Go.Proofs.Ythnlkahgmbadoaa
