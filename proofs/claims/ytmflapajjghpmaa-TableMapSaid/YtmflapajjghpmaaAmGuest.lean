/- The end of a proof about a function that is handed slices of integers: they lie as guests in the abstract memory. No program in sight. -/
import Derived.Test.YtmflapajjghpmaaAmStep
namespace Go.Proofs.Ytmflapajjghpmaa
open Go.RowKit
set_option linter.unusedVariables false

/-- a slice of integers that came in: nil, or it leads to a row of 'cap' cells -/
def GuestRow (w : World) (a : Option Addr) (len cap : Nat) (zs : List Int) : Prop :=
  (a = none ∧ len = 0 ∧ cap = 0 ∧ zs = []) ∨
  ∃ x, a = some x ∧ len ≤ cap ∧ cap ≤ maxLen ∧ zs.length = cap ∧ (∀ i, i < zs.length → w.cell? (x.add i) = some (.int .i64 (zs.getD i 0))) ∧ (∀ n ∈ zs, (Lit.int .i64 n).wf = true) ∧ x.spot = none ∧ x.block < w.heap.size
theorem has_block {P : Program} {w : World} {base : Nat} {e : TypeId} {t : TypeId} {x : Addr} {len cap : Nat} (ht : P.underlying t = some (.slice e)) (h : Value.okWide P w .any base t (.slice (some x) len cap)) : x.spot = none ∧ x.block < w.heap.size := by
  simp only [Value.okWide, ht, Cell.okWide, Cell.ok, World.has] at h
  obtain ⟨_, _, _, hs, row, cells, hsh, _⟩ := h
  refine ⟨hs, ?_⟩
  unfold World.shape? at hsh
  rcases Nat.lt_or_ge x.block w.heap.size with h | h
  · exact h
  · rw [Array.getElem?_eq_none h] at hsh
    simp at hsh
/-- what a function is handed -/
inductive GA where
  | fl (v : Value)
  | sl (a : Option Addr) (len cap : Nat) (z : List Int)
def GA.abs (i : Nat) : GA → Value
  | .fl v => v
  | .sl a len _ _ => .slice (a.map fun _ => ⟨i, 0, none⟩) len 0
def GA.conc : GA → Value
  | .fl v => v
  | .sl a len cap _ => .slice a len cap
def GA.ok (w : World) : GA → Prop
  | .fl v => flat v = true
  | .sl a len cap z => GuestRow w a len cap z
def absL : Nat → List GA → List Value
  | _, [] => []
  | i, g :: l => g.abs i :: absL (i + 1) l
def objsL : Nat → List GA → Tr AObj → Tr AObj
  | _, [], t => t
  | i, .fl _ :: l, t => objsL (i + 1) l t
  | i, .sl _ _ _ z :: l, t => objsL (i + 1) l (t.put i (some (.row (z.map (Value.int .i64)) 0 1 false)))
def gH (l : List GA) : AHeap := ⟨objsL 0 l .nil, l.length, []⟩
def gAt (l : List GA) (i : Nat) : Option AObj := match l[i]? with
  | some (.sl _ _ _ z) => some (.row (z.map (Value.int .i64)) 0 1 false)
  | _ => none
theorem objs_get : ∀ (l : List GA) (i : Nat) (t : Tr AObj) (j : Nat), (objsL i l t).get j = if i ≤ j ∧ (gAt l (j - i)).isSome then gAt l (j - i) else t.get j
  | [], i, t, j => by simp [objsL, gAt]
  | .fl v :: l, i, t, j => by
    rw [objsL, objs_get l (i + 1) t j]
    by_cases h : i + 1 ≤ j
    · have e : gAt (.fl v :: l) (j - i) = gAt l (j - (i + 1)) := by
        rw [show j - i = (j - (i + 1)) + 1 from by omega]; rfl
      rw [e]
      simp [h, show i ≤ j from by omega]
    · by_cases h2 : i = j
      · subst h2; simp [gAt]; intro h3; omega
      · simp [h, show ¬ i ≤ j from by omega]
  | .sl a n c z :: l, i, t, j => by
    rw [objsL, objs_get l (i + 1) _ j]
    by_cases h : i + 1 ≤ j
    · have e : gAt (.sl a n c z :: l) (j - i) = gAt l (j - (i + 1)) := by
        rw [show j - i = (j - (i + 1)) + 1 from by omega]; rfl
      rw [e, Tr.get_put, if_neg (show ¬ j = i from by omega)]
      simp [h, show i ≤ j from by omega]
    · by_cases h2 : i = j
      · subst h2
        rw [if_neg (by omega), Tr.get_put, if_pos rfl]
        simp [gAt]
      · rw [if_neg (by omega), if_neg (by omega), Tr.get_put, if_neg (fun e => h2 e.symm)]
theorem gH_get (l : List GA) (j : Nat) : (gH l).get j = gAt l j := by
  show (objsL 0 l .nil).get j = _
  rw [objs_get, Nat.sub_zero, Tr.get_nil]
  by_cases h : (gAt l j).isSome
  · simp [h]
  · simp at h; simp [h]
def gBe (l : List GA) : Ren := fun i => match l[i]? with
  | some (.sl (some x) _ _ _) => some ⟨x.block, x.off, 1, 0, false⟩
  | _ => none
theorem gBe_at {l : List GA} {i : Nat} {s : Spot} (h : gBe l i = some s) : ∃ x n c z, l[i]? = some (.sl (some x) n c z) ∧ s = ⟨x.block, x.off, 1, 0, false⟩ := by
  unfold gBe at h
  split at h
  · rename_i x n c z hl; cases h; exact ⟨x, n, c, z, hl, rfl⟩
  · cases h
theorem gH_rel {w : World} {l : List GA} (hl : ∀ g ∈ l, g.ok w) : Rel (gBe l) (gH l) w ∧ WF (gH l) := by
  refine ⟨⟨?_, ?_, ?_, ?_⟩, ?_⟩
  · intro i o s hi hs
    obtain ⟨x, n, c, z, hx, rfl⟩ := gBe_at hs
    rw [gH_get] at hi
    unfold gAt at hi
    rw [hx] at hi
    simp only [Option.some.injEq] at hi
    subst hi
    rcases hl _ (List.mem_of_getElem? hx) with ⟨h, _⟩ | ⟨y, h1, h2, h3, h4, h5, h6, h7, h8⟩
    · cases h
    · cases h1
      refine ⟨rfl, fun j v hj => ?_, fun h => by cases h⟩
      rw [List.getElem?_map] at hj
      obtain ⟨u, hu, rfl⟩ := Option.map_eq_some_iff.1 hj
      have hjl := (List.getElem?_eq_some_iff.1 hu).1
      refine ⟨_, ?_, .int _ _⟩
      have := h5 j hjl
      rw [show z.getD j 0 = u from by simp [List.getD, hu]] at this
      rw [← this]
      obtain ⟨b, f, sp⟩ := x
      simp only at h7
      subst h7
      congr 1
      unfold Addr.add
      by_cases h0 : j = 0 <;> simp [h0]
  · intro i s hs
    obtain ⟨x, n, c, z, hx, rfl⟩ := gBe_at hs
    rcases hl _ (List.mem_of_getElem? hx) with ⟨h, _⟩ | ⟨y, h1, h2, h3, h4, h5, h6, h7, h8⟩
    · cases h
    · cases h1; exact h8
  · intro i j oi oj si sj _ _ c _ _ hso
    obtain ⟨x, n, cc, z, hx, rfl⟩ := gBe_at c
    cases hso
  · intro i hi
    have hi : l.length ≤ i := hi
    unfold gBe
    rw [List.getElem?_eq_none hi]
  · intro i hi
    have hi : l.length ≤ i := hi
    rw [gH_get]
    unfold gAt
    rw [List.getElem?_eq_none hi]
theorem absL_get : ∀ (l : List GA) (i j : Nat), (absL i l)[j]? = (l[j]?).map fun g => g.abs (i + j)
  | [], i, j => by simp [absL]
  | g :: l, i, 0 => rfl
  | g :: l, i, j + 1 => by
    show (absL (i + 1) l)[j]? = _
    rw [absL_get l (i + 1) j, show i + 1 + j = i + (j + 1) from by omega]; rfl
theorem absL_len : ∀ (l : List GA) (i : Nat), (absL i l).length = l.length
  | [], i => rfl
  | g :: l, i => by simp [absL, absL_len l (i + 1)]
theorem gArgs {w : World} {l : List GA} (hl : ∀ g ∈ l, g.ok w) : ListVR (gBe l) (absL 0 l) (l.map GA.conc) := by
  refine ⟨by rw [absL_len, List.length_map], fun j x y hx hy => ?_⟩
  rw [absL_get] at hx
  obtain ⟨g, hg, rfl⟩ := Option.map_eq_some_iff.1 hx
  rw [List.getElem?_map, hg] at hy
  simp only [Option.map_some, Option.some.injEq] at hy
  subst hy
  have hok := hl g (List.mem_of_getElem? hg)
  cases g with
  | fl v => exact (flat_vr hok _).1
  | sl a n c z =>
    rw [Nat.zero_add]
    rcases hok with ⟨rfl, rfl, rfl, _⟩ | ⟨y, rfl, h2, h3, h4, h5, h6, h7, h8⟩
    · exact .slice0
    · have hb : gBe l j = some ⟨y.block, y.off, 1, 0, false⟩ := by unfold gBe; rw [hg]
      obtain ⟨b, f, sp⟩ := y
      simp only at h7
      subst h7
      exact .slice (o := 0) hb h2 (by have : maxLen ≤ 9223372036854775807 := by decide
                                      omega) (.inr ⟨rfl, fun h => by cases h⟩)
/-- a law that the abstract machine answers by true, its slices as guests -/
theorem true_of_g {P : Program} {O : Helps} (ho : CallSound P [] (helpFn O)) (hm : P.follows .mixedOrders = true) (n : Nat) (f : FuncId) (l : List GA) (w : World) (hl : ∀ g ∈ l, g.ok w)
    (h : Got (oCall P [] O n f (absL 0 l) (gH l)) fun x => x.1 = .bool true) : Calls P f (l.map GA.conc).toArray w fun e w' => e = .returned (.bool true) ∧ Below w.heap.size w w' := by
  obtain ⟨⟨v, H'⟩, hr, hv⟩ := h
  have hv : v = .bool true := hv
  subst hv
  obtain ⟨hrel, hwf⟩ := gH_rel hl
  obtain ⟨_, hs⟩ := oCall_sound ho hm n f (absL 0 l) (gH l) (.bool true) H' hr hwf
  refine (hs _ w _ hrel (fun g hg => (by cases hg)) (gArgs hl)).mono fun e w' hh => ?_
  obtain ⟨v', β', rfl, h1, h2, _⟩ := hh
  cases h1
  exact ⟨rfl, h2.below (fun i s hi => by obtain ⟨x, n, c, z, _, rfl⟩ := gBe_at hi; rfl)⟩
end Go.Proofs.Ytmflapajjghpmaa
