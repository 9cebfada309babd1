/- Frame: the handed-in slices of a frame as guests. -/
import Derived.Test.YteomehedmfemiaaRgLaw
import Derived.Test.YteomehedmfemiaaGuA
set_option linter.unusedSimpArgs false
set_option linter.unusedVariables false
namespace Go.Proofs.Yteomehedmfemiaa
open Go.RowKit
theorem vv_of : ∀ (zs : List (List Int)), (∀ z ∈ zs, z.length = 2) → ∃ l : List VV, l.length = zs.length ∧ intCells [.u8, .i64] zs = vvC l
  | [], _ => ⟨[], rfl, rfl⟩
  | z :: zs, h => by
    obtain ⟨l, h1, h2⟩ := vv_of zs fun y hy => h y (by simp [hy])
    match z, h z (by simp) with
    | [a, b], _ => exact ⟨(a, b) :: l, by simp [h1], by show [Value.int .u8 a, .int .i64 b] ++ intCells [.u8, .i64] zs = _; rw [h2]; rfl⟩
theorem tt_of : ∀ (zs : List (List Int)), (∀ z ∈ zs, z.length = 4) → ∃ l : List TT, l.length = zs.length ∧ intCells [.u8, .i64, .i64, .i64] zs = ttC l
  | [], _ => ⟨[], rfl, rfl⟩
  | z :: zs, h => by
    obtain ⟨l, h1, h2⟩ := tt_of zs fun y hy => h y (by simp [hy])
    match z, h z (by simp) with
    | [a, b, c, d], _ => exact ⟨(a, b, c, d) :: l, by simp [h1], by show [Value.int .u8 a, .int .i64 b, .int .i64 c, .int .i64 d] ++ intCells [.u8, .i64, .i64, .i64] zs = _; rw [h2]; rfl⟩
section
variable {w : World} {gl : List GV} {j len cap : Nat} {a : Option Addr}
theorem guest_get {z : List Value} (hg : gl[j]? = some (.sl a len cap z)) : (objsV 0 gl .nil).get j = some (.row z 0 1 false) ∧ j < gl.length := by
  refine ⟨?_, (List.getElem?_eq_some_iff.1 hg).1⟩
  have := vH_get gl j
  unfold vAt at this
  rw [hg] at this
  exact this
theorem guest_V {l : List VV} (hl : l.length = len) (hr : CellRow w a len cap (vvC l)) (hg : gl[j]? = some (.sl a len cap (vvC l))) : SlV (objsV 0 gl .nil) gl.length (.slice (a.map fun _ => ⟨j, 0, none⟩) len 0) l := by
  obtain ⟨h1, h2⟩ := guest_get hg
  subst hl
  rcases hr with ⟨rfl, h0, _, _⟩ | ⟨x, rfl, _⟩
  · exact .inl ⟨by rw [h0]; rfl, List.length_eq_zero_iff.1 h0⟩
  · exact .inr ⟨j, 0, 0, 0, 1, false, _, rfl, h2, h1, vvC_cut l⟩
theorem guest_T {l : List TT} (hl : l.length = len) (hr : CellRow w a len cap (ttC l)) (hg : gl[j]? = some (.sl a len cap (ttC l))) : SlT (objsV 0 gl .nil) gl.length (.slice (a.map fun _ => ⟨j, 0, none⟩) len 0) l := by
  obtain ⟨h1, h2⟩ := guest_get hg
  subst hl
  rcases hr with ⟨rfl, h0, _, _⟩ | ⟨x, rfl, _⟩
  · exact .inl ⟨by rw [h0]; rfl, List.length_eq_zero_iff.1 h0⟩
  · exact .inr ⟨j, 0, 0, 0, 1, false, _, rfl, h2, h1, ttC_cut l⟩
theorem guest_I {l : List Int} (hl : l.length = len) (hr : CellRow w a len cap (l.map (.int .i64))) (hg : gl[j]? = some (.sl a len cap (l.map (.int .i64)))) : SlI (objsV 0 gl .nil) gl.length (.slice (a.map fun _ => ⟨j, 0, none⟩) len 0) l := by
  obtain ⟨h1, h2⟩ := guest_get hg
  subst hl
  rcases hr with ⟨rfl, h0, _, _⟩ | ⟨x, rfl, _⟩
  · exact .inl ⟨by rw [h0]; rfl, List.length_eq_zero_iff.1 h0⟩
  · exact .inr ⟨j, 0, 0, 0, 1, false, _, rfl, h2, h1, fun k hk => by rw [Nat.zero_add, List.getElem?_map, List.getElem?_eq_getElem hk]; rfl⟩
theorem vvC_flat (l : List VV) : (vvC l).all flat1 = true := by
  induction l with
  | nil => rfl
  | cons p l ih => show (flat1 (.int .u8 p.1) && (flat1 (.int .i64 p.2) && (vvC l).all flat1)) = true; rw [ih]; rfl
theorem ttC_flat (l : List TT) : (ttC l).all flat1 = true := by
  induction l with
  | nil => rfl
  | cons p l ih => show (flat1 (.int .u8 p.1) && (flat1 (.int .i64 p.2.1) && (flat1 (.int .i64 p.2.2.1) && (flat1 (.int .i64 p.2.2.2) && (ttC l).all flat1)))) = true; rw [ih]; rfl
theorem intC_flat (l : List Int) : (l.map (Value.int .i64)).all flat1 = true := by
  induction l with
  | nil => rfl
  | cons p l ih => show (flat1 (.int .i64 p) && (l.map (Value.int .i64)).all flat1) = true; rw [ih]; rfl
end
end Go.Proofs.Yteomehedmfemiaa
