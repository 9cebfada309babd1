/- The world that a row of this seat gives, as an abstract memory; the end of a proof. -/
import Derived.Test.YtedfjfpnpncgkaaDoorIntsHelp
import Derived.Stop.LaidErr
import Derived.LaidLaws
import Derived.Lib.LaidTab
import Derived.Test.YtedfjfpnpncgkaaDoorRows
namespace Go.Proofs.YtedfjfpnpncgkaaDoor
open Go.RowKit
set_option linter.unusedSimpArgs false
set_option linter.unusedVariables false

/-- what the three variables hold: their blocks, told to the abstract machine -/
structure Laid (W : World) : Prop where
  pow : ∃ t fz, W.heap[2]? = some (.cells (Lib.pow10Tab.map (Value.int .u64)).toArray t fz) ∧ ∀ j, j < 20 → (decide (fz.1 ≤ j) && decide (j < fz.2)) = false
  errS : ∃ t b p, W.cell? ⟨0, 0, none⟩ = some (.iface t (.pointer (some ⟨b, p, none⟩))) ∧ b < W.heap.size
  errR : ∃ t b p, W.cell? ⟨1, 0, none⟩ = some (.iface t (.pointer (some ⟨b, p, none⟩))) ∧ b < W.heap.size

def H0 (t te tr : TypeId) : AHeap :=
  ⟨((Tr.nil.put 2 (some (.row powCells t 0 false))).put 0 (some (.row [.iface te (.pointer (some ⟨900, 0, none⟩))] 0 1 false))).put 1 (some (.row [.iface tr (.pointer (some ⟨901, 0, none⟩))] 0 1 false)), 1000, []⟩
def be0 (b1 p1 b2 p2 : Nat) : Ren := fun i =>
  if i = 2 then some ⟨2, 0, 0, 20, false⟩
  else if i = 0 then some ⟨0, 0, 1, 20, false⟩
  else if i = 1 then some ⟨1, 0, 1, 20, false⟩
  else if i = 900 then some ⟨b1, p1, 0, 0, false⟩ else if i = 901 then some ⟨b2, p2, 0, 0, false⟩ else none
theorem be0_own {b1 p1 b2 p2 : Nat} : ∀ i s, be0 b1 p1 b2 p2 i = some s → s.own = false := by
  intro i s h
  unfold be0 at h
  repeat' split at h
  all_goals (cases h <;> rfl)
theorem H0_rel {W : World} {t te tr : TypeId} {b1 p1 b2 p2 : Nat} {fz : Nat × Nat} (h1 : W.heap[2]? = some (.cells (Lib.pow10Tab.map (Value.int .u64)).toArray t fz) ∧ ∀ j, j < 20 → (decide (fz.1 ≤ j) && decide (j < fz.2)) = false)
    (h2 : W.cell? ⟨0, 0, none⟩ = some (.iface te (.pointer (some ⟨b1, p1, none⟩))) ∧ b1 < W.heap.size) (h3 : W.cell? ⟨1, 0, none⟩ = some (.iface tr (.pointer (some ⟨b2, p2, none⟩))) ∧ b2 < W.heap.size) :
    Rel (be0 b1 p1 b2 p2) (H0 t te tr) W ∧ GlobOk gs2 (be0 b1 p1 b2 p2) ∧ WF (H0 t te tr) := by
  have hblk : ∀ (g : Nat) (v : Value), W.cell? ⟨g, 0, none⟩ = some v → g < W.heap.size := fun g v hv => by
    unfold World.cell? at hv
    split at hv
    · rename_i c e fz hb; exact (Array.getElem?_eq_some_iff.1 hb).1
    · cases hv
  have e900 : be0 b1 p1 b2 p2 900 = some ⟨b1, p1, 0, 0, false⟩ := by simp [be0]
  have e901 : be0 b1 p1 b2 p2 901 = some ⟨b2, p2, 0, 0, false⟩ := by simp [be0]
  have hget : ∀ i, (H0 t te tr).get i = if i = 1 then some (.row [.iface tr (.pointer (some ⟨901, 0, none⟩))] 0 1 false) else if i = 0 then some (.row [.iface te (.pointer (some ⟨900, 0, none⟩))] 0 1 false) else if i = 2 then some (.row powCells t 0 false) else none := fun i => by
    unfold H0; rw [qH, Tr.get_put, Tr.get_put, Tr.get_put, Tr.get_nil]
  refine ⟨⟨?_, ?_, ?_, ?_⟩, ?_, ?_⟩
  · intro i ob s hi hs
    rw [hget] at hi
    by_cases c1 : i = 1
    · subst c1
      simp [be0] at hs
      simp at hi; subst hi hs
      refine ⟨rfl, fun j v hj => ?_, fun h => by cases h⟩
      match j with
      | 0 => simp at hj; subst hj; exact ⟨_, h3.1, .iface (.ptr (o := 0) e901)⟩
      | j + 1 => simp at hj
    · rw [if_neg c1] at hi
      by_cases c2 : i = 0
      · subst c2
        simp [be0] at hs
        simp at hi; subst hi hs
        refine ⟨rfl, fun j v hj => ?_, fun h => by cases h⟩
        match j with
        | 0 => simp at hj; subst hj; exact ⟨_, h2.1, .iface (.ptr (o := 0) e900)⟩
        | j + 1 => simp at hj
      · rw [if_neg c2] at hi
        by_cases c3 : i = 2
        · subst c3
          simp [be0] at hs
          rw [if_pos rfl] at hi
          cases hi; subst hs
          refine ⟨rfl, fun j v hj => ?_, fun _ => ⟨rfl, _, _, h1.1, by simp [Lib.pow10Tab_length], h1.2⟩⟩
          have hf : flat v = true := by
            obtain ⟨z, _, hz⟩ := List.mem_map.1 (List.mem_of_getElem? hj)
            rw [← hz]; rfl
          refine ⟨v, ?_, (flat_vr hf _).1⟩
          have := cell_of_row W 2 j _ t fz h1.1
          simp only [Nat.zero_add]
          rw [this]
          simpa [powCells] using hj
        · rw [if_neg c3] at hi; cases hi
  · intro i s hs
    unfold be0 at hs
    repeat' split at hs
    · cases hs; exact (Array.getElem?_eq_some_iff.1 h1.1).1
    · cases hs; exact hblk _ _ h2.1
    · cases hs; exact hblk _ _ h3.1
    · cases hs; exact h2.2
    · cases hs; exact h3.2
    · cases hs
  · intro i j oi oj si sj _ _ c _ _ hso
    rw [be0_own i si c] at hso; cases hso
  · intro i hi
    have hi : 1000 ≤ i := hi
    unfold be0
    rw [if_neg (by omega), if_neg (by omega), if_neg (by omega), if_neg (by omega), if_neg (by omega)]
  · intro g hg
    simp only [gs2, List.mem_cons, List.not_mem_nil, or_false] at hg
    rcases hg with rfl | rfl | rfl <;> exact ⟨_, rfl, rfl, rfl, rfl⟩
  · intro i hi
    have hi : 1000 ≤ i := hi
    rw [hget, if_neg (by omega), if_neg (by omega), if_neg (by omega)]

theorem laid_rel {β : Ren} {H : AHeap} {w : World} (hr : Rel β H w) (hg : GlobOk gs2 β) (h : (hasTab H && (hasErr 0 H && hasErr 1 H)) = true) : Laid w := by
  simp only [Bool.and_eq_true] at h
  obtain ⟨h1, h2, h3⟩ := h
  refine ⟨?_, err_of hr hg (by simp [gs2]) h2, err_of hr hg (by simp [gs2]) h3⟩
  obtain ⟨c, t, fz, k1, k2, k3⟩ := tab_of hr hg h1
  exact ⟨t, fz, k2 ▸ k1, k3⟩
/-- a function of flat arguments that the machine answers by true, with helps that keep their word -/
theorem true_of_o {O : Helps} (ho : CallSound Tryd.prog gs2 (helpFn O)) (n : Nat) (f : FuncId) (args : List Value) (hf : args.all flat = true) (W : World) (hL : Laid W)
    (h : ∀ t te tr, okTrue (oCall Tryd.prog gs2 O n f args (H0 t te tr)) = true) : Calls Tryd.prog f args.toArray W fun e w' => e = .returned (.bool true) ∧ Below W.heap.size W w' := by
  obtain ⟨⟨t, fz, h1⟩, ⟨te, b1, p1, h2⟩, ⟨tr, b2, p2, h3⟩⟩ := hL
  obtain ⟨hr, hg, hwf⟩ := H0_rel h1 h2 h3
  have h := h t te tr
  unfold okTrue at h
  split at h
  · rename_i H' hcall
    obtain ⟨_, hs⟩ := oCall_sound ho (by kernel_rfl) n f args (H0 t te tr) (.bool true) H' hcall hwf
    refine (hs _ W args hr hg ⟨rfl, fun j x y hx hy => ?_⟩).mono fun e w' hh => ?_
    · rw [hx] at hy; cases hy
      exact (flat_vr (List.all_eq_true.1 hf x (List.mem_of_getElem? hx)) _).1
    · obtain ⟨v', β', rfl, g1, g2, _⟩ := hh
      cases g1
      exact ⟨rfl, g2.below (fun i s hi => be0_own i s hi)⟩
  · cases h
end Go.Proofs.YtedfjfpnpncgkaaDoor
