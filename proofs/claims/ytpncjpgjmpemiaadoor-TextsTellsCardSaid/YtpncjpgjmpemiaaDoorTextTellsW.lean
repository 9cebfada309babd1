/- TextsTells: the walk's end: the document's Part, put in. -/
import Derived.Test.YtpncjpgjmpemiaaDoorTextTells
import Derived.Test.YtpncjpgjmpemiaaDoorTextR5
namespace Go.Proofs.YtpncjpgjmpemiaaDoor
open Go.RowKit
set_option linter.unusedSimpArgs false
set_option linter.unusedVariables false

theorem part_same (q : UInt8) : ∀ l : List UInt8, partQ q l = partP q l
  | [] => rfl
  | _ :: _ => rfl
theorem ttells_walk (a b : ByteArray) (w : World) (hL : laidMet Tryd.prog Rows.textsTellsRow.laid w) (hS : w.ShapedOpen Tryd.prog) :
    Calls Tryd.prog 4 #[.string a, .string b] w fun e w' => e = .returned (.bool true) ∧ Below w.heap.size w w' := by
  refine true_of_t O4_sound 4000 _ [.string a, .string b] rfl w (laidT_of w hL hS) fun t m => okTrue_of ?_
  have := ttells_run a.data.toList b.data.toList _ 1000 (GT_H0 t m) fun nx lg p q ha hp => by
    rw [part_same]
    exact part_r (n := 3972) clearT (fun nx lg x => enc_r (n := 3996) x) a.data.toList p q (by omega) (by omega) hp
  rw [← str_of, ← str_of] at this
  exact this
end Go.Proofs.YtpncjpgjmpemiaaDoor
