/- What the program's table says of the slices' element types. -/
import Derived.Test.YtmflapajjghpmaaProg
import Derived.Test.YtmflapajjghpmaaKit
namespace Go.Proofs.Ytmflapajjghpmaa
theorem Try.elemI64 : Elem Try.prog 22 3 (.int .i64 0) 1 8 := ⟨by kernel_rfl, by kernel_rfl⟩
end Go.Proofs.Ytmflapajjghpmaa
