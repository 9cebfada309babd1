/- The end of a proof about a function whose arguments hold slices anywhere (within structs too): the slices are guests. No program in sight. -/
import Derived.Test.YteomehedmfemiaaAmGuestV
set_option linter.unusedSimpArgs false
set_option linter.unusedVariables false
namespace Go.Proofs.Yteomehedmfemiaa
open Go.RowKit
/-- a guest slice, wherever it stands -/
theorem gv_slice {w : World} {l : List GV} (hl : ∀ g ∈ l, g.ok w) {j : Nat} {a : Option Addr} {n c : Nat} {z : List Value} (hg : l[j]? = some (.sl a n c z)) : VR (vBe l) (.slice (a.map fun _ => ⟨j, 0, none⟩) n 0) (.slice a n c) := by
  have hok := hl _ (List.mem_of_getElem? hg)
  rcases hok.1 with ⟨rfl, rfl, rfl, _⟩ | ⟨y, rfl, h2, h3, h4, h5, h6⟩
  · exact .slice0
  · have hb : vBe l j = some ⟨y.block, y.off, 1, 0, false⟩ := by unfold vBe; rw [hg]
    obtain ⟨b, f, sp⟩ := y
    simp only at h5
    subst h5
    exact .slice (o := 0) hb h2 (by have : maxLen ≤ 9223372036854775807 := by decide
                                    omega) (.inr ⟨rfl, fun h => by cases h⟩)
/-- a struct of parts that are alike -/
theorem vr_agg {β : Ren} {a a' : List Value} (h : ListVR β a a') : VR β (.agg a.toArray) (.agg a'.toArray) := by
  obtain ⟨hl, h1⟩ := h
  exact .agg (by simpa using hl) fun j x y hx hy => h1 j x y (by simpa using hx) (by simpa using hy)
theorem lvr_nil {β : Ren} : ListVR β [] [] := ⟨rfl, fun j x y hx hy => by simp at hx⟩
theorem lvr_cons {β : Ren} {x y : Value} {a a' : List Value} (h : VR β x y) (t : ListVR β a a') : ListVR β (x :: a) (y :: a') := by
  obtain ⟨hl, h1⟩ := t
  refine ⟨by simp [hl], fun j u v hu hv => ?_⟩
  cases j with
  | zero => simp at hu hv; subst hu; subst hv; exact h
  | succ j => exact h1 j u v (by simpa using hu) (by simpa using hv)
/-- a law that the abstract machine answers by true, its arguments' slices as guests -/
theorem true_of_gl {P : Program} {O : Helps} (ho : CallSound P [] (helpFn O)) (hm : P.follows .mixedOrders = true) (n : Nat) (f : FuncId) (l : List GV) (w : World) (hl : ∀ g ∈ l, g.ok w) (args args' : List Value) (ha : ListVR (vBe l) args args')
    (h : Got (oCall P [] O n f args (vH l)) fun x => x.1 = .bool true) : Calls P f args'.toArray w fun e w' => e = .returned (.bool true) ∧ Below w.heap.size w w' := by
  obtain ⟨⟨v, H'⟩, hr, hv⟩ := h
  have hv : v = .bool true := hv
  subst hv
  obtain ⟨hrel, hwf⟩ := vH_rel hl
  obtain ⟨_, hs⟩ := oCall_sound ho hm n f args (vH l) (.bool true) H' hr hwf
  refine (hs _ w _ hrel (fun g hg => (by cases hg)) ha).mono fun e w' hh => ?_
  obtain ⟨v', β', rfl, h1, h2, _⟩ := hh
  cases h1
  exact ⟨rfl, h2.below (fun i s hi => by obtain ⟨x, n, c, z, _, rfl⟩ := vBe_at hi; rfl)⟩
end Go.Proofs.Yteomehedmfemiaa
