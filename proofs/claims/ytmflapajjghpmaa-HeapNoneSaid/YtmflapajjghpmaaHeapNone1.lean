/- HeapNone: the abstract machine answers true, whatever the value and the text: each kind by itself, and those behind the last. -/
import Derived.Test.YtmflapajjghpmaaProg
import Derived.Test.YtmflapajjghpmaaAmSound4
import Derived.KernelRfl
namespace Go.Proofs.Ytmflapajjghpmaa
open Go.RowKit

theorem heapNone_0 (b : Int) (s : ByteArray) : okTrue (aCall Try.prog [] 100 14 [.agg #[.int .u8 (.ofNat 0), .int .i64 b], .string s] emptyH) = true := by kernel_rfl
theorem heapNone_1 (b : Int) (s : ByteArray) : okTrue (aCall Try.prog [] 100 14 [.agg #[.int .u8 (.ofNat 1), .int .i64 b], .string s] emptyH) = true := by kernel_rfl
theorem heapNone_2 (b : Int) (s : ByteArray) : okTrue (aCall Try.prog [] 100 14 [.agg #[.int .u8 (.ofNat 2), .int .i64 b], .string s] emptyH) = true := by kernel_rfl
theorem heapNone_3 (b : Int) (s : ByteArray) : okTrue (aCall Try.prog [] 100 14 [.agg #[.int .u8 (.ofNat 3), .int .i64 b], .string s] emptyH) = true := by kernel_rfl
end Go.Proofs.Ytmflapajjghpmaa
