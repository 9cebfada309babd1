/- Ints: the school's laws on sums, products, quotients and rests. -/
import Derived.Test.YtedfjfpnpncgkaaDoorIntsFn
import Derived.Test.YtedfjfpnpncgkaaDoorIntsAwake
namespace Go.Proofs.YtedfjfpnpncgkaaDoor
open Go.RowKit
set_option linter.unusedSimpArgs false
set_option linter.unusedVariables false

/-- the three variables, as the machine has them -/
structure G2 (o : Tr AObj) (nx : Nat) : Prop where
  tab : ∀ lg, hasTab ⟨o, nx, lg⟩ = true
  errS : ∀ lg, hasErr 0 ⟨o, nx, lg⟩ = true
  errR : ∀ lg, hasErr 1 ⟨o, nx, lg⟩ = true
  low : 1000 ≤ nx
theorem G2.put {o : Tr AObj} {nx nx' i : Nat} {x : Option AObj} (h : G2 o nx) (hi : 1000 ≤ i) (hn : nx ≤ nx') : G2 (o.put i x) nx' := by
  have e : ∀ g, g < 1000 → (o.put i x).get g = o.get g := fun g hg => qF _ _ _ _ (by omega)
  have h1 := h.tab []; have h2 := h.errS []; have h3 := h.errR []
  unfold hasTab at h1; unfold hasErr at h2 h3
  simp only [qH] at h1 h2 h3
  refine ⟨fun lg => ?_, fun lg => ?_, fun lg => ?_, Nat.le_trans h.low hn⟩
  · unfold hasTab; simp only [qH, e _ (by omega : 2 < 1000)]; exact h1
  · unfold hasErr; simp only [qH, e _ (by omega : 0 < 1000)]; exact h2
  · unfold hasErr; simp only [qH, e _ (by omega : 1 < 1000)]; exact h3
theorem G2.more {o : Tr AObj} {nx nx' : Nat} (h : G2 o nx) (hn : nx ≤ nx') : G2 o nx' :=
  ⟨fun lg => h.tab lg, fun lg => h.errS lg, fun lg => h.errR lg, Nat.le_trans h.low hn⟩
theorem G2_H0 (t te tr : TypeId) : G2 (H0 t te tr).objs (H0 t te tr).next := ⟨fun _ => by kernel_rfl, fun _ => by kernel_rfl, fun _ => by kernel_rfl, Nat.le_refl _⟩
theorem clear2 : Clear O2 := fun f hf => by
  simp only [helped, List.mem_cons, List.not_mem_nil, or_false, not_or] at hf
  have hb : ∀ k, f ≠ k → Nat.beq f k = false := fun k hk => by
    cases e : Nat.beq f k with
    | false => rfl
    | true => exact absurd (Nat.eq_of_beq_eq_true e) hk
  simp only [O2, orHelp, O1, awakeO, hb _ hf.1, hb _ hf.2.1, hb _ hf.2.2, cond]
theorem awake_ok {n : Nat} {o : Tr AObj} {nx : Nat} {lg : List Nat} (hG : G2 o nx) : oCall Tryd.prog gs2 O2 (n + 1) 5 [] ⟨o, nx, lg⟩ = some (.bool true, ⟨o, nx, lg⟩) := by
  show awakeHelp [] _ = _
  unfold awakeHelp
  rw [hG.tab, hG.errS, hG.errR]; rfl
end Go.Proofs.YtedfjfpnpncgkaaDoor
