/- CollectNone: the machine answers true, whatever the number. -/
import Derived.Test.YtleafaodppcfdaaSrtHelpD
set_option linter.unusedSimpArgs false
set_option linter.unusedVariables false
namespace Go.Proofs.Ytleafaodppcfdaa
open Go.RowKit
theorem collectNone_all (n : Int) : okTrue (oCall Try.prog [] heapO 60 3 [.int .i64 n] emptyH) = true := by kernel_rfl
theorem collectNone_walk (n : Int) (w : World) : Calls Try.prog 3 #[.int .i64 n] w fun e w' => e = .returned (.bool true) ∧ Below w.heap.size w w' :=
  true_of_h heapO_sound mixed_ 60 3 [.int .i64 n] rfl (collectNone_all n) w
end Go.Proofs.Ytleafaodppcfdaa
