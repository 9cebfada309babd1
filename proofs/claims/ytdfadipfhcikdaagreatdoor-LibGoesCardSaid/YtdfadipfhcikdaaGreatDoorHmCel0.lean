/- Heap: what is found; ends of a walk. -/
import Derived.Test.YtdfadipfhcikdaaGreatDoorHmAdd3
namespace Go.Proofs.YtdfadipfhcikdaaGreatDoor
open Go.RowKit
set_option linter.unusedSimpArgs false
set_option linter.unusedVariables false
set_option maxRecDepth 100000

theorem cut_has (a b c d e f g h i j k : Value) : cut [a, b, c, d, e, f, g, h, i, j, k] 8 2 = some [i, j] := rfl
theorem cut_meta (a b c d e f g h i j k : Value) : cut [a, b, c, d, e, f, g, h, i, j, k] 4 2 = some [e, f] := rfl
theorem found_in {hs : HS} {v : VV} {ob : Ob} (h : findO hs v = some ob) : (v.2, ob) ∈ hs.objs ∧ ob.kind = v.1 := by
  unfold findO at h
  split at h
  · split at h
    · rename_i ob1 h1
      split at h
      · rename_i hk
        cases h
        exact ⟨look_mem h1, hk⟩
      · cases h
    · cases h
  · cases h
def cellOb (v : VV) : Ob := ⟨9, 0, ⟨#[]⟩, [], (0, 0), 0, [], v⟩
def cellO (hs : HS) (v : VV) : HS × VV × Int := if keepO hs v = true then addO hs (cellOb v) 1 else (hs, (0, 0), 150)
/-- the object of a value, if it is of a kind -/
def ofO (hs : HS) (v : VV) (k : Int) : Option Ob := if v.1 = k then findO hs v else none
def loadO (hs : HS) (v : VV) : VV := match ofO hs v 9 with
  | some ob => ob.has
  | none => (0, 0)
section
variable {O : Helps} {n : Nat} {o : Tr AObj} {nx : Nat} {lg : List Nat} {w : Nat → Nat} {B : HB} {hs : HS}
theorem HeapIn.rightF (hO : Clear O) (h : HeapIn o nx w B hs) : ∀ (o' : Tr AObj) (nx' : Nat) (lg : List Nat), o'.get B.i = o.get B.i → oCall Tryz.prog [] O (n + 1) 13 [.pointer (some ⟨B.i, 0, none⟩)] ⟨o', nx', lg⟩ = some (.bool true, ⟨o', nx', lg⟩) := by
  intro o' nx' lg e
  obtain ⟨z, hr⟩ := h.row
  exact hright_ok hO _ _ _ (e.trans hr)
theorem more2 (h : HeapIn o nx w B hs) (X Y : Option AObj) (q : Nat) (hq : 1 ≤ q) : HeapIn ((o.put nx X).put (nx + 1) Y) (nx + q) w B hs := h.more (by omega) fun x hx => by rw [qF _ _ _ _ (by omega), qF _ _ _ _ (by omega)]
theorem more1 (h : HeapIn o nx w B hs) (X : Option AObj) (q : Nat) : HeapIn (o.put nx X) (nx + q) w B hs := h.more (by omega) fun x hx => qF _ _ _ _ (by omega)
theorem hto_end (h : HeapIn o nx w B hs) {o2 : Tr AObj} {nx2 : Nat} {l : List Nat} {v : Value} {hs' : HS} {w' : Nat → Nat} {B' : HB} (hv : lowV nx v = true) (hH : HeapIn o2 nx2 w' B' hs') (hn : nx ≤ nx2) (hB : B'.i = B.i) (hfr : ∀ x, x < nx → w x = 0 → o2.get x = o.get x ∧ w' x = 0)
    (hl : (∃ x, x ∈ l ∧ w x ≠ 0) ∨ (hs' = hs ∧ l.all (fun i => Nat.ble nx i) = true)) : HTo o nx lg w B hs hs' v (leave ⟨o, nx, lg⟩ v ⟨o2, nx2, l⟩) := by
  rcases hl with ⟨x, hx, hwx⟩ | ⟨rfl, hq⟩
  · exact loud_end hx (h.wlt x hwx) fun l' hmo hin => ⟨_, _, _, w', B', rfl, hn, hH, hB, hfr, hmo, .inl ⟨x, hin x hx (h.wlt x hwx), hwx⟩⟩
  · exact quiet_end hq hv (.same h _)
end
end Go.Proofs.YtdfadipfhcikdaaGreatDoor
