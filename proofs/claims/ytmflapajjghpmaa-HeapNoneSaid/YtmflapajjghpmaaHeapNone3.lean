/- HeapNone: the abstract machine answers true, whatever the value and the text: each kind by itself, and those behind the last. -/
import Derived.Test.YtmflapajjghpmaaProg
import Derived.Test.YtmflapajjghpmaaAmSound4
import Derived.KernelRfl
namespace Go.Proofs.Ytmflapajjghpmaa
open Go.RowKit

theorem heapNone_8 (b : Int) (s : ByteArray) : okTrue (aCall Try.prog [] 100 14 [.agg #[.int .u8 (.ofNat 8), .int .i64 b], .string s] emptyH) = true := by kernel_rfl
theorem heapNone_9 (b : Int) (s : ByteArray) : okTrue (aCall Try.prog [] 100 14 [.agg #[.int .u8 (.ofNat 9), .int .i64 b], .string s] emptyH) = true := by kernel_rfl
theorem heapNone_n (n : Nat) (b : Int) (s : ByteArray) : okTrue (aCall Try.prog [] 100 14 [.agg #[.int .u8 (.ofNat (n + 10)), .int .i64 b], .string s] emptyH) = true := by kernel_rfl
theorem heapNone_m (n : Nat) (b : Int) (s : ByteArray) : okTrue (aCall Try.prog [] 100 14 [.agg #[.int .u8 (.negSucc n), .int .i64 b], .string s] emptyH) = true := by kernel_rfl
end Go.Proofs.Ytmflapajjghpmaa
