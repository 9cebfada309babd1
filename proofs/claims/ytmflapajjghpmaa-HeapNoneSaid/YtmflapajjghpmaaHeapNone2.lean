/- HeapNone: the abstract machine answers true, whatever the value and the text: each kind by itself, and those behind the last. -/
import Derived.Test.YtmflapajjghpmaaProg
import Derived.Test.YtmflapajjghpmaaAmSound4
import Derived.KernelRfl
namespace Go.Proofs.Ytmflapajjghpmaa
open Go.RowKit

theorem heapNone_4 (b : Int) (s : ByteArray) : okTrue (aCall Try.prog [] 100 14 [.agg #[.int .u8 (.ofNat 4), .int .i64 b], .string s] emptyH) = true := by kernel_rfl
theorem heapNone_5 (b : Int) (s : ByteArray) : okTrue (aCall Try.prog [] 100 14 [.agg #[.int .u8 (.ofNat 5), .int .i64 b], .string s] emptyH) = true := by kernel_rfl
theorem heapNone_6 (b : Int) (s : ByteArray) : okTrue (aCall Try.prog [] 100 14 [.agg #[.int .u8 (.ofNat 6), .int .i64 b], .string s] emptyH) = true := by kernel_rfl
theorem heapNone_7 (b : Int) (s : ByteArray) : okTrue (aCall Try.prog [] 100 14 [.agg #[.int .u8 (.ofNat 7), .int .i64 b], .string s] emptyH) = true := by kernel_rfl
end Go.Proofs.Ytmflapajjghpmaa
