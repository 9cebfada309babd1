/- Contracts of the library, laid at this program by the kit's tool. -/
import Derived.Shelf.SlIterI.Nil
import Derived.Ground.GgzProg
import Derived.Test.YtleafaodppcfdaaProg
set_option maxRecDepth 1000000
namespace Go.Proofs
open Go.Shelf
def Try.keysN_ren : Go.Shelf.Ren := ⟨fun | 7 => 30 | 10 => 52 | n => n, fun | 23 => 30 | 26 => 3 | 3 => 4 | 28 => 67 | 0 => 0 | 27 => 66 | 33 => 47 | 4 => 4 | n => n, fun | n => n⟩
theorem Try.keysN : Go.Proofs.SlLaysZI.n7 Try.prog Try.keysN_ren := {
  mixed := by kernel_rfl
  f7 := ⟨Try.f30.name, by decide, Try.func30.trans (congrArg some (by kernel_rfl))⟩
  f10 := ⟨Try.f52.name, by decide, Try.func52.trans (congrArg some (by kernel_rfl))⟩
  t0 := Try.underlying0
  a0 := Try.isAgg0
  z0 := Try.sizeOf0
  v0 := Try.zeroValue0
  t4 := Try.underlying4
  a4 := Try.isAgg4
  z4 := Try.sizeOf4
  v4 := Try.zeroValue4
  t23 := Try.underlying30
  a23 := Try.isAgg30
  z23 := Try.sizeOf30
  v23 := Try.zeroValue30
  t26 := Try.underlying3
  a26 := Try.isAgg3
  z26 := Try.sizeOf3
  v26 := Try.zeroValue3
  t27 := Try.underlying66
  a27 := Try.isAgg66
  z27 := Try.sizeOf66
  v27 := Try.zeroValue66
  t28 := Try.underlying67
  a28 := Try.isAgg67
  z28 := Try.sizeOf67
  v28 := Try.zeroValue67
  t33 := Try.underlying47
  a33 := Try.isAgg47
  z33 := Try.sizeOf47
  v33 := Try.zeroValue47 }
end Go.Proofs
