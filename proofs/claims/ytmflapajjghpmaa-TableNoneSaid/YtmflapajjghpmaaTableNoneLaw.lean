/- TableNone: the abstract machine answers true, whatever the values. -/
import Derived.Test.YtmflapajjghpmaaProg
import Derived.Test.YtmflapajjghpmaaAmSound4
import Derived.KernelRfl
namespace Go.Proofs.Ytmflapajjghpmaa
open Go.RowKit

theorem tableNone_any (a b c d : Int) (w : World) : Calls Try.prog 8 #[.agg #[.int .u8 a, .int .i64 b], .agg #[.int .u8 c, .int .i64 d]] w fun e w' => e = .returned (.bool true) ∧ Below w.heap.size w w' :=
  true_of_am (by kernel_rfl) 60 8 [.agg #[.int .u8 a, .int .i64 b], .agg #[.int .u8 c, .int .i64 d]] rfl (by kernel_rfl) w
end Go.Proofs.Ytmflapajjghpmaa
