/- The end of a proof about a function that is handed slices of whatever flat cells: they lie as guests in the abstract memory. No program in sight. -/
import Derived.Test.YtdfadipfhcikdaaGreatDoorAmC
import Derived.Test.YtdfadipfhcikdaaGreatDoorRowStruct
set_option linter.unusedSimpArgs false
set_option linter.unusedVariables false
namespace Go.Proofs.YtdfadipfhcikdaaGreatDoor
open Go.RowKit

/-- what a function is handed -/
inductive GV where
  | fl (v : Value)
  | sl (a : Option Addr) (len cap : Nat) (z : List Value)
def GV.abs (i : Nat) : GV → Value
  | .fl v => v
  | .sl a len _ _ => .slice (a.map fun _ => ⟨i, 0, none⟩) len 0
def GV.conc : GV → Value
  | .fl v => v
  | .sl a len cap _ => .slice a len cap
def GV.ok (w : World) : GV → Prop
  | .fl v => flat v = true
  | .sl a len cap z => CellRow w a len cap z ∧ z.all flat1 = true
def absV : Nat → List GV → List Value
  | _, [] => []
  | i, g :: l => g.abs i :: absV (i + 1) l
def objsV : Nat → List GV → Tr AObj → Tr AObj
  | _, [], t => t
  | i, .fl _ :: l, t => objsV (i + 1) l t
  | i, .sl _ _ _ z :: l, t => objsV (i + 1) l (t.put i (some (.row (z) 0 1 false)))
def vH (l : List GV) : AHeap := ⟨objsV 0 l .nil, l.length, []⟩
def vAt (l : List GV) (i : Nat) : Option AObj := match l[i]? with
  | some (.sl _ _ _ z) => some (.row (z) 0 1 false)
  | _ => none
theorem objsV_get : ∀ (l : List GV) (i : Nat) (t : Tr AObj) (j : Nat), (objsV i l t).get j = if i ≤ j ∧ (vAt l (j - i)).isSome then vAt l (j - i) else t.get j
  | [], i, t, j => by simp [objsV, vAt]
  | .fl v :: l, i, t, j => by
    rw [objsV, objsV_get l (i + 1) t j]
    by_cases h : i + 1 ≤ j
    · have e : vAt (.fl v :: l) (j - i) = vAt l (j - (i + 1)) := by
        rw [show j - i = (j - (i + 1)) + 1 from by omega]; rfl
      rw [e]
      simp [h, show i ≤ j from by omega]
    · by_cases h2 : i = j
      · subst h2; simp [vAt]; intro h3; omega
      · simp [h, show ¬ i ≤ j from by omega]
  | .sl a n c z :: l, i, t, j => by
    rw [objsV, objsV_get l (i + 1) _ j]
    by_cases h : i + 1 ≤ j
    · have e : vAt (.sl a n c z :: l) (j - i) = vAt l (j - (i + 1)) := by
        rw [show j - i = (j - (i + 1)) + 1 from by omega]; rfl
      rw [e, Tr.get_put, if_neg (show ¬ j = i from by omega)]
      simp [h, show i ≤ j from by omega]
    · by_cases h2 : i = j
      · subst h2
        rw [if_neg (by omega), Tr.get_put, if_pos rfl]
        simp [vAt]
      · rw [if_neg (by omega), if_neg (by omega), Tr.get_put, if_neg (fun e => h2 e.symm)]
theorem vH_get (l : List GV) (j : Nat) : (vH l).get j = vAt l j := by
  show (objsV 0 l .nil).get j = _
  rw [objsV_get, Nat.sub_zero, Tr.get_nil]
  by_cases h : (vAt l j).isSome
  · simp [h]
  · simp at h; simp [h]
def vBe (l : List GV) : Ren := fun i => match l[i]? with
  | some (.sl (some x) _ _ _) => some ⟨x.block, x.off, 1, 0, false⟩
  | _ => none
theorem vBe_at {l : List GV} {i : Nat} {s : Spot} (h : vBe l i = some s) : ∃ x n c z, l[i]? = some (.sl (some x) n c z) ∧ s = ⟨x.block, x.off, 1, 0, false⟩ := by
  unfold vBe at h
  split at h
  · rename_i x n c z hl; cases h; exact ⟨x, n, c, z, hl, rfl⟩
  · cases h
theorem add_at {x : Addr} (h : x.spot = none) (j : Nat) : x.add j = ⟨x.block, x.off + j, none⟩ := by
  obtain ⟨b, f, sp⟩ := x
  simp only at h
  subst h
  unfold Addr.add
  by_cases h0 : j = 0 <;> simp [h0]
theorem vH_rel {w : World} {l : List GV} (hl : ∀ g ∈ l, g.ok w) : Rel (vBe l) (vH l) w ∧ WF (vH l) := by
  refine ⟨⟨?_, ?_, ?_, ?_⟩, ?_⟩
  · intro i o s hi hs
    obtain ⟨x, n, c, z, hx, rfl⟩ := vBe_at hs
    rw [vH_get] at hi
    unfold vAt at hi
    rw [hx] at hi
    simp only [Option.some.injEq] at hi
    subst hi
    obtain ⟨h, hfl⟩ := hl _ (List.mem_of_getElem? hx)
    rcases h with ⟨h, _⟩ | ⟨y, h1, h2, h3, h4, h5, h6⟩
    · cases h
    · cases h1
      refine ⟨rfl, fun j v hj => ⟨v, ?_, (flat1_vr (List.all_eq_true.1 hfl v (List.mem_of_getElem? hj)) _).1⟩, fun h => by cases h⟩
      have := h4 j v hj
      rw [add_at h5] at this
      exact this
  · intro i s hs
    obtain ⟨x, n, c, z, hx, rfl⟩ := vBe_at hs
    obtain ⟨h, hfl⟩ := hl _ (List.mem_of_getElem? hx)
    rcases h with ⟨h, _⟩ | ⟨y, h1, h2, h3, h4, h5, h6⟩
    · cases h
    · cases h1; exact h6
  · intro i j oi oj si sj _ _ c _ _ hso
    obtain ⟨x, n, cc, z, hx, rfl⟩ := vBe_at c
    cases hso
  · intro i hi
    have hi : l.length ≤ i := hi
    unfold vBe
    rw [List.getElem?_eq_none hi]
  · intro i hi
    have hi : l.length ≤ i := hi
    rw [vH_get]
    unfold vAt
    rw [List.getElem?_eq_none hi]
theorem absV_get : ∀ (l : List GV) (i j : Nat), (absV i l)[j]? = (l[j]?).map fun g => g.abs (i + j)
  | [], i, j => by simp [absV]
  | g :: l, i, 0 => rfl
  | g :: l, i, j + 1 => by
    show (absV (i + 1) l)[j]? = _
    rw [absV_get l (i + 1) j, show i + 1 + j = i + (j + 1) from by omega]; rfl
theorem absV_len : ∀ (l : List GV) (i : Nat), (absV i l).length = l.length
  | [], i => rfl
  | g :: l, i => by simp [absV, absV_len l (i + 1)]
theorem vArgs {w : World} {l : List GV} (hl : ∀ g ∈ l, g.ok w) : ListVR (vBe l) (absV 0 l) (l.map GV.conc) := by
  refine ⟨by rw [absV_len, List.length_map], fun j x y hx hy => ?_⟩
  rw [absV_get] at hx
  obtain ⟨g, hg, rfl⟩ := Option.map_eq_some_iff.1 hx
  rw [List.getElem?_map, hg] at hy
  simp only [Option.map_some, Option.some.injEq] at hy
  subst hy
  have hok := hl g (List.mem_of_getElem? hg)
  cases g with
  | fl v => exact (flat_vr hok _).1
  | sl a n c z =>
    rw [Nat.zero_add]
    rcases hok.1 with ⟨rfl, rfl, rfl, _⟩ | ⟨y, rfl, h2, h3, h4, h5, h6⟩
    · exact .slice0
    · have hb : vBe l j = some ⟨y.block, y.off, 1, 0, false⟩ := by unfold vBe; rw [hg]
      obtain ⟨b, f, sp⟩ := y
      simp only at h5
      subst h5
      exact .slice (o := 0) hb h2 (by have : maxLen ≤ 9223372036854775807 := by decide
                                      omega) (.inr ⟨rfl, fun h => by cases h⟩)
/-- a law that the abstract machine answers by true, its slices as guests -/
theorem true_of_v {P : Program} {O : Helps} (ho : CallSound P [] (helpFn O)) (hm : P.follows .mixedOrders = true) (n : Nat) (f : FuncId) (l : List GV) (w : World) (hl : ∀ g ∈ l, g.ok w)
    (h : Got (oCall P [] O n f (absV 0 l) (vH l)) fun x => x.1 = .bool true) : Calls P f (l.map GV.conc).toArray w fun e w' => e = .returned (.bool true) ∧ Below w.heap.size w w' := by
  obtain ⟨⟨v, H'⟩, hr, hv⟩ := h
  have hv : v = .bool true := hv
  subst hv
  obtain ⟨hrel, hwf⟩ := vH_rel hl
  obtain ⟨_, hs⟩ := oCall_sound ho hm n f (absV 0 l) (vH l) (.bool true) H' hr hwf
  refine (hs _ w _ hrel (fun g hg => (by cases hg)) (vArgs hl)).mono fun e w' hh => ?_
  obtain ⟨v', β', rfl, h1, h2, _⟩ := hh
  cases h1
  exact ⟨rfl, h2.below (fun i s hi => by obtain ⟨x, n, c, z, _, rfl⟩ := vBe_at hi; rfl)⟩
end Go.Proofs.YtdfadipfhcikdaaGreatDoor
