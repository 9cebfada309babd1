/- Lists of values in rows (plain); their copies. -/
import Derived.Test.YtdfadipfhcikdaaGreatDoorHmCel0
namespace Go.Proofs.YtdfadipfhcikdaaGreatDoor
open Go.RowKit
set_option linter.unusedSimpArgs false
set_option linter.unusedVariables false
set_option maxRecDepth 100000

theorem leave_new {o o' : Tr AObj} {nx nx' : Nat} {lg l : List Nat} {v : Value} (hl : l.all (fun i => Nat.ble nx i) = true) (hv : lowV nx v = false) : leave ⟨o, nx, lg⟩ v ⟨o', nx', l⟩ = (v, ⟨o', nx', lg⟩) := by
  unfold leave
  simp only [hl, hv, Bool.and_false, cond]
  have : (l.filter fun i => Nat.blt i nx) = [] := by
    rw [List.filter_eq_nil_iff]
    intro x hx
    have := List.all_eq_true.1 hl x hx
    rw [Nat.ble_eq] at this
    rw [Nat.blt_eq]; omega
  rw [this]; rfl
/-- a list of values as a slice: where it lies, its capacity's mark -/
def SlOk (a : Option Nat) (l : List VV) (cc : Nat) : Prop := cc = 0 ∨ (cc = 1 ∧ l = [] ∧ a ≠ none)
theorem SlOk.nil0 {a : Option Nat} {l : List VV} {cc : Nat} (h : SlOk a l cc) (e : a = none) : cc = 0 := h.resolve_right fun h => h.2.2 e
theorem vv_len (l : List VV) : (vvCells l).length = l.length * 2 := by
  induction l with
  | nil => rfl
  | cons v l ih => simp only [vvCells, List.flatMap_cons, List.length_append, List.length_cons, List.length_nil] at ih ⊢; omega
theorem vv_cut {l : List VV} {k : Nat} (h : k < l.length) (rest : List Value) : cut (vvCells l ++ rest) (k * 2) 2 = some [.int .u8 (l[k]).1, .int .i64 (l[k]).2] := by
  have e : vvCells l = vvCells (l.take k) ++ ([.int .u8 (l[k]).1, .int .i64 (l[k]).2] ++ vvCells (l.drop (k + 1))) := by
    conv => lhs; rw [← List.take_append_drop k l, List.drop_eq_getElem_cons h]
    simp only [vvCells, List.flatMap_append, List.flatMap_cons]
  refine cut_in rfl (vvCells (l.take k)) (vvCells (l.drop (k + 1)) ++ rest) ?_ ?_
  · rw [vv_len, List.length_take, Nat.min_eq_left (by omega)]
  · rw [e]; simp
theorem app_vv : appOf Tryz.prog 32 32 = some (29, 2, 16) := by kernel_rfl
theorem build_vv0 : ∀ fid H, buildSliceV Tryz.prog 32 0 [] fid H = some (.slice (some ⟨fid, 0, none⟩) 0 1, newRowA fid [] 29 2 H) := fun fid H => by kernel_rfl
theorem vapp_row {l : List VV} {j : Nat} {rest : List Value} {cc m : Nat} (hm : l.length = m + 1) (hl : l.length ≤ 1000000) : ∀ (o : Tr AObj) (nx : Nat) (lg : List Nat) (fid q : Nat), o.get q = some (.row [] 29 2 true) → o.get j = some (.row (vvCells l ++ rest) 29 2 true) →
    aAppend Tryz.prog 32 32 (.slice (some ⟨q, 0, none⟩) 0 1) (.slice (some ⟨j, 0, none⟩) (m + 1) cc) fid ⟨o, nx, lg⟩ = some (.slice (some ⟨fid, 0, none⟩) (m + 1) 0, ⟨o.put fid (some (.row (vvCells l) 29 2 true)), nx, lg⟩) := by
  intro o nx lg fid q hq hj
  have hadd : addCells 2 (.slice (some ⟨j, 0, none⟩) (m + 1) cc) ⟨o, nx, lg⟩ = some (m + 1, vvCells l) := by
    simp only [addCells, qH, hj]
    rw [show cut (vvCells l ++ rest) 0 ((m + 1) * 2) = some (vvCells l) from cut_in (by rw [vv_len, hm]) [] rest rfl rfl]; rfl
  have hr : roomOk (m + 1) 16 = true := by unfold roomOk; rw [Bool.and_eq_true, Nat.ble_eq, Nat.ble_eq]; omega
  have hb : Nat.beq (m + 1) 0 = false := rfl
  have hle : Nat.ble (m + 1) 0 = false := rfl
  rw [appOf_at app_vv, hadd]
  simp only [qH, hq, hb, ji, jg, show cut ([] : List Value) 0 (0 * 2) = some [] from rfl, Nat.zero_add, hr, hle, List.nil_append]; rfl
theorem vapp_nil {j cc : Nat} {cells : List Value} {T z : Nat} {own : Bool} : ∀ (o : Tr AObj) (nx : Nat) (lg : List Nat) (fid q : Nat), o.get q = some (.row [] 29 2 true) → o.get j = some (.row cells T z own) →
    aAppend Tryz.prog 32 32 (.slice (some ⟨q, 0, none⟩) 0 1) (.slice (some ⟨j, 0, none⟩) 0 cc) fid ⟨o, nx, lg⟩ = some (.slice (some ⟨q, 0, none⟩) 0 1, ⟨o, nx, lg⟩) := by
  intro o nx lg fid q hq hj
  have hadd : addCells 2 (.slice (some ⟨j, 0, none⟩) 0 cc) ⟨o, nx, lg⟩ = some (0, []) := by
    simp only [addCells, qH, hj]; rfl
  rw [appOf_at app_vv, hadd]; rfl
end Go.Proofs.YtdfadipfhcikdaaGreatDoor
