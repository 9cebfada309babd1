/- HeapNone: the abstract machine answers true, whatever the value and the text: each kind by itself, and those behind the last. -/
import Derived.Test.YtmflapajjghpmaaProg
import Derived.Test.YtmflapajjghpmaaAmSound4
import Derived.KernelRfl
import Derived.Test.YtmflapajjghpmaaHeapNone1
import Derived.Test.YtmflapajjghpmaaHeapNone2
import Derived.Test.YtmflapajjghpmaaHeapNone3
namespace Go.Proofs.Ytmflapajjghpmaa
open Go.RowKit

theorem heapNone_all (s : ByteArray) : ∀ (a b : Int), okTrue (aCall Try.prog [] 100 14 [.agg #[.int .u8 a, .int .i64 b], .string s] emptyH) = true
  | .ofNat 0, b => heapNone_0 b s
  | .ofNat 1, b => heapNone_1 b s
  | .ofNat 2, b => heapNone_2 b s
  | .ofNat 3, b => heapNone_3 b s
  | .ofNat 4, b => heapNone_4 b s
  | .ofNat 5, b => heapNone_5 b s
  | .ofNat 6, b => heapNone_6 b s
  | .ofNat 7, b => heapNone_7 b s
  | .ofNat 8, b => heapNone_8 b s
  | .ofNat 9, b => heapNone_9 b s
  | .ofNat (n + 10), b => heapNone_n n b s
  | .negSucc n, b => heapNone_m n b s

theorem heapNone_any (a b : Int) (s : ByteArray) (w : World) : Calls Try.prog 14 #[.agg #[.int .u8 a, .int .i64 b], .string s] w fun e w' => e = .returned (.bool true) ∧ Below w.heap.size w w' :=
  true_of_am (by kernel_rfl) 100 14 [.agg #[.int .u8 a, .int .i64 b], .string s] rfl (heapNone_all s a b) w
end Go.Proofs.Ytmflapajjghpmaa
