/- Texts: from a row's listed variables and its world's shape to what the abstract machine is told. -/
import Derived.Test.YtpncjpgjmpemiaaDoorTextTop
import Derived.Stop.LaidErr
namespace Go.Proofs.YtpncjpgjmpemiaaDoor
open Go.RowKit
set_option linter.unusedSimpArgs false
set_option linter.unusedVariables false

theorem laidT_of (W : World) (hL : laidMet Tryd.prog Rows.textsNumbersRow.laid W) (hS : W.ShapedOpen Tryd.prog) : LaidT W := by
  refine ⟨?_, cell_of_shapedOpen_int (P := Tryd.prog) (g := 0) (t := 3) (zero := #[.int .i64 0]) hS (of_decide_eq_true (by kernel_rfl)) (by kernel_rfl) rfl (by kernel_rfl) (by kernel_rfl) Tryd.underlying3⟩
  have h1 := hL.tail
  have h2 := h1.tail
  have hrows := h2
  have htab := Lib.tabIs_of_head (k := .u64) (zs := Lib.pow10Tab) (g := 1) (by kernel_rfl) (by kernel_rfl) Tryd.underlying107 Tryd.underlying69 (by kernel_rfl) (by kernel_rfl) h2
  obtain ⟨ps, ⟨g0, t0, cs0, f0, p0, q0, hg0, ht0, hv0, hd0, _, e0⟩, _, hrows⟩ := h2
  unfold Lib.TabIs at htab
  have hcs := Option.some.inj (htab.symm.trans hv0)
  have eg : g0 = 1 := Option.some.inj (hg0.symm.trans (by kernel_rfl))
  subst eg
  have hm : MemPlace.cell 1 0 ∈ ps := by
    subst e0
    have hz : 0 < cs0.size := by rw [← hcs]; simp [Lib.pow10Tab_length]
    simp only [List.mem_append]
    refine .inl (.inl ?_)
    simp [MemPlace.row, hz]
  obtain ⟨⟨c, t, hc⟩, _⟩ := hrows _ _ hm
  refine ⟨t, (0, 0), ?_, fun j _ => by simp⟩
  rw [hc]
  unfold World.var? at htab
  rw [hg0] at htab
  simp only [Option.bind_some, hc, Option.some.injEq] at htab
  rw [htab]
theorem textNumbers_walk (w : World) (hL : laidMet Tryd.prog Rows.textsNumbersRow.laid w) (hS : w.ShapedOpen Tryd.prog) : Calls Tryd.prog 3 #[] w fun e w' => e = .returned (.bool true) ∧ Below w.heap.size w w' :=
  true_of_t O4_sound 60 _ [] rfl w (laidT_of w hL hS) numbersT_run
end Go.Proofs.YtpncjpgjmpemiaaDoor
