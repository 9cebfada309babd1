/- From a row's listed variables to what the abstract machine is told. -/
import Derived.Test.YtedfjfpnpncgkaaDoorIntsTop
import Derived.Stop.LaidErr
namespace Go.Proofs.YtedfjfpnpncgkaaDoor
open Go.RowKit
set_option linter.unusedSimpArgs false
set_option linter.unusedVariables false

theorem cell_lt {W : World} {a : Addr} {v : Value} (h : W.cell? a = some v) : a.block < W.heap.size ∧ a.spot = none := by
  unfold World.cell? at h
  split at h
  · rename_i c e fz hb
    cases hs : a.spot with
    | none => exact ⟨(Array.getElem?_eq_some_iff.1 hb).1, rfl⟩
    | some s => rw [hs] at h; simp at h
  · cases h
theorem rowE (u : TypeId) (nm : String) (hn : nm = "*" ++ "errors.errorString") (h : Tryd.prog.typeName? 3 u = some nm) : u = 84 :=
  typeName_ptr_named (nm := "errors.errorString") (by kernel_rfl) (by kernel_rfl) (by decide) u (by rw [← hn]; exact h)
theorem sentinel_cell {W : World} {n nm : String} {text : List UInt8} {r : List (String × DataW Unit)} {g : Nat} (hL : laidMet Tryd.prog ((n, .iface nm (.ptr (.agg [.lit (.string text)]))) :: r) W) (hn : nm = "*" ++ "errors.errorString")
    (hg : Tryd.prog.globalNamed n = some g) (ht : (Tryd.prog.globals[g]?).map (·.type) = some 45) : ∃ t b p, W.cell? ⟨g, 0, none⟩ = some (.iface t (.pointer (some ⟨b, p, none⟩))) ∧ b < W.heap.size := by
  obtain ⟨a, s, hv, hc, -, -⟩ := laid_sentinel hL hg ht Tryd.underlying45 (fun u hu => rowE u nm hn hu) Tryd.underlying84 Tryd.underlying86 rfl rfl Tryd.underlying9 (by kernel_rfl) (by kernel_rfl)
  obtain ⟨h1, h2⟩ := cell_lt hc
  obtain ⟨b, p, sp⟩ := a
  have h2 : sp = none := h2
  subst h2
  exact ⟨_, b, p, by have h0 := World.var?_cell hg hv 0; simpa using h0, h1⟩
theorem laid_of (W : World) (hL : laidMet Tryd.prog Rows.intsTellsRow.laid W) : Laid W := by
  have h1 := hL.tail
  have h2 := h1.tail
  have h3 := h2.tail
  have h4 := h3.tail
  refine ⟨?_, ?_, ?_⟩
  · have hrows := h2
    have htab := Lib.tabIs_of_head (k := .u64) (zs := Lib.pow10Tab) (g := 2) (by kernel_rfl) (by kernel_rfl) Tryd.underlying78 Tryd.underlying41 (by kernel_rfl) (by kernel_rfl) h2
    obtain ⟨ps, ⟨g0, t0, cs0, f0, p0, q0, hg0, ht0, hv0, hd0, _, e0⟩, _, hrows⟩ := h2
    unfold Lib.TabIs at htab
    have hcs := Option.some.inj (htab.symm.trans hv0)
    have eg : g0 = 2 := Option.some.inj (hg0.symm.trans (by kernel_rfl))
    subst eg
    have hm : MemPlace.cell 2 0 ∈ ps := by
      subst e0
      have hz : 0 < cs0.size := by rw [← hcs]; simp [Lib.pow10Tab_length]
      simp only [List.mem_append]
      refine .inl (.inl ?_)
      simp [MemPlace.row, hz]
    obtain ⟨⟨c, t, hc⟩, _⟩ := hrows _ _ hm
    refine ⟨t, (0, 0), ?_, fun j _ => by simp⟩
    rw [hc]
    unfold World.var? at htab
    rw [hg0] at htab
    simp only [Option.bind_some, hc, Option.some.injEq] at htab
    rw [htab]
  · exact sentinel_cell h4 (by decide) (by kernel_rfl) (by kernel_rfl)
  · exact sentinel_cell h3 (by decide) (by kernel_rfl) (by kernel_rfl)
end Go.Proofs.YtedfjfpnpncgkaaDoor
