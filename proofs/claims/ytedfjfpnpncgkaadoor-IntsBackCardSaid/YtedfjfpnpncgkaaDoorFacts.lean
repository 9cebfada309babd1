/- Facts on the types of the program's functions, each reckoned by the kernel. Written by a program. -/
import Derived.Test.YtedfjfpnpncgkaaDoorProg
import Derived.Test.YtedfjfpnpncgkaaDoorAmGo
import Derived.KernelRfl
namespace Go.Proofs.YtedfjfpnpncgkaaDoor
open Go.RowKit
theorem co_5 : codeOf Tryd.prog 5 = true := by kernel_rfl
theorem co_6 : codeOf Tryd.prog 6 = true := by kernel_rfl
theorem co_7 : codeOf Tryd.prog 7 = true := by kernel_rfl
theorem co_8 : codeOf Tryd.prog 8 = true := by kernel_rfl
theorem co_9 : codeOf Tryd.prog 9 = true := by kernel_rfl
theorem co_10 : codeOf Tryd.prog 10 = true := by kernel_rfl
theorem co_11 : codeOf Tryd.prog 11 = true := by kernel_rfl
theorem co_12 : codeOf Tryd.prog 12 = true := by kernel_rfl
theorem co_13 : codeOf Tryd.prog 13 = true := by kernel_rfl
theorem co_14 : codeOf Tryd.prog 14 = true := by kernel_rfl
theorem co_15 : codeOf Tryd.prog 15 = true := by kernel_rfl
theorem co_16 : codeOf Tryd.prog 16 = true := by kernel_rfl
theorem co_17 : codeOf Tryd.prog 17 = true := by kernel_rfl
theorem co_18 : codeOf Tryd.prog 18 = true := by kernel_rfl
theorem co_19 : codeOf Tryd.prog 19 = true := by kernel_rfl
theorem co_20 : codeOf Tryd.prog 20 = true := by kernel_rfl
theorem co_21 : codeOf Tryd.prog 21 = true := by kernel_rfl
theorem ld_9 : aggSize Tryd.prog 9 = some none := by kernel_rfl
theorem sz_9 : sizeT Tryd.prog 9 = some 1 := by kernel_rfl
theorem co_23 : codeOf Tryd.prog 23 = true := by kernel_rfl
theorem co_24 : codeOf Tryd.prog 24 = true := by kernel_rfl
theorem co_25 : codeOf Tryd.prog 25 = true := by kernel_rfl
theorem co_26 : codeOf Tryd.prog 26 = true := by kernel_rfl
theorem co_27 : codeOf Tryd.prog 27 = true := by kernel_rfl
theorem co_28 : codeOf Tryd.prog 28 = true := by kernel_rfl
theorem co_29 : codeOf Tryd.prog 29 = true := by kernel_rfl
theorem co_30 : codeOf Tryd.prog 30 = true := by kernel_rfl
theorem co_22 : codeOf Tryd.prog 22 = true := by kernel_rfl
theorem co_31 : codeOf Tryd.prog 31 = true := by kernel_rfl
theorem co_32 : codeOf Tryd.prog 32 = true := by kernel_rfl
theorem co_33 : codeOf Tryd.prog 33 = true := by kernel_rfl
theorem co_34 : codeOf Tryd.prog 34 = true := by kernel_rfl
theorem co_35 : codeOf Tryd.prog 35 = true := by kernel_rfl
theorem co_36 : codeOf Tryd.prog 36 = true := by kernel_rfl
theorem co_37 : codeOf Tryd.prog 37 = true := by kernel_rfl
theorem co_38 : codeOf Tryd.prog 38 = true := by kernel_rfl
theorem co_39 : codeOf Tryd.prog 39 = true := by kernel_rfl
theorem co_40 : codeOf Tryd.prog 40 = true := by kernel_rfl
theorem co_41 : codeOf Tryd.prog 41 = true := by kernel_rfl
theorem co_42 : codeOf Tryd.prog 42 = true := by kernel_rfl
theorem ze_64 : zeroOf Tryd.prog 64 = some (.agg #[(.int .u8 0), (.int .u8 0), (.int .u8 0), (.int .u8 0), (.int .u8 0), (.int .u8 0), (.int .u8 0), (.int .u8 0), (.int .u8 0), (.int .u8 0), (.int .u8 0), (.int .u8 0), (.int .u8 0), (.int .u8 0), (.int .u8 0), (.int .u8 0), (.int .u8 0), (.int .u8 0), (.int .u8 0), (.int .u8 0), (.int .u8 0), (.int .u8 0), (.int .u8 0), (.int .u8 0)]) := by kernel_rfl
theorem co_43 : codeOf Tryd.prog 43 = true := by kernel_rfl
theorem co_44 : codeOf Tryd.prog 44 = true := by kernel_rfl
theorem el_64 : elemOf Tryd.prog 64 = some ((some 24), 1) := by kernel_rfl
theorem sz_5 : sizeT Tryd.prog 5 = some 1 := by kernel_rfl
theorem co_45 : codeOf Tryd.prog 45 = true := by kernel_rfl
theorem co_46 : codeOf Tryd.prog 46 = true := by kernel_rfl
theorem el_67 : elemOf Tryd.prog 67 = some (none, 1) := by kernel_rfl
theorem ld_5 : aggSize Tryd.prog 5 = some none := by kernel_rfl
theorem co_47 : codeOf Tryd.prog 47 = true := by kernel_rfl
theorem co_48 : codeOf Tryd.prog 48 = true := by kernel_rfl
theorem ld_45 : aggSize Tryd.prog 45 = some none := by kernel_rfl
theorem co_50 : codeOf Tryd.prog 50 = true := by kernel_rfl
theorem co_49 : codeOf Tryd.prog 49 = true := by kernel_rfl
theorem co_52 : codeOf Tryd.prog 52 = true := by kernel_rfl
theorem co_51 : codeOf Tryd.prog 51 = true := by kernel_rfl
theorem el_78 : elemOf Tryd.prog 78 = some ((some 20), 1) := by kernel_rfl
theorem ld_41 : aggSize Tryd.prog 41 = some none := by kernel_rfl
theorem co_53 : codeOf Tryd.prog 53 = true := by kernel_rfl
theorem ze_80 : zeroOf Tryd.prog 80 = some (.agg #[(.int .u8 0), (.int .u8 0), (.int .u8 0), (.int .u8 0), (.int .u8 0), (.int .u8 0), (.int .u8 0), (.int .u8 0), (.int .u8 0), (.int .u8 0), (.int .u8 0), (.int .u8 0), (.int .u8 0), (.int .u8 0), (.int .u8 0), (.int .u8 0), (.int .u8 0), (.int .u8 0), (.int .u8 0), (.int .u8 0), (.int .u8 0), (.int .u8 0), (.int .u8 0), (.int .u8 0), (.int .u8 0), (.int .u8 0), (.int .u8 0), (.int .u8 0), (.int .u8 0), (.int .u8 0), (.int .u8 0), (.int .u8 0), (.int .u8 0), (.int .u8 0), (.int .u8 0), (.int .u8 0), (.int .u8 0), (.int .u8 0), (.int .u8 0), (.int .u8 0), (.int .u8 0), (.int .u8 0), (.int .u8 0), (.int .u8 0), (.int .u8 0), (.int .u8 0), (.int .u8 0), (.int .u8 0), (.int .u8 0), (.int .u8 0), (.int .u8 0), (.int .u8 0), (.int .u8 0), (.int .u8 0), (.int .u8 0), (.int .u8 0), (.int .u8 0), (.int .u8 0), (.int .u8 0), (.int .u8 0), (.int .u8 0), (.int .u8 0), (.int .u8 0), (.int .u8 0), (.int .u8 0)]) := by kernel_rfl
theorem co_54 : codeOf Tryd.prog 54 = true := by kernel_rfl
theorem co_55 : codeOf Tryd.prog 55 = true := by kernel_rfl
theorem el_80 : elemOf Tryd.prog 80 = some ((some 65), 1) := by kernel_rfl
theorem ez_67 : elemZeroOk Tryd.prog 67 = true := by kernel_rfl
theorem bu_86_0 : ∀ (a0 : ByteArray), buildV Tryd.prog 86 [(0, .string a0)] = some (.agg #[.string a0]) := by intros; kernel_rfl
theorem co_56 : codeOf Tryd.prog 56 = true := by kernel_rfl
theorem co_57 : codeOf Tryd.prog 57 = true := by kernel_rfl
theorem co_58 : codeOf Tryd.prog 58 = true := by kernel_rfl
theorem el_88 : elemOf Tryd.prog 88 = some ((some 32), 1) := by kernel_rfl
theorem el_89 : elemOf Tryd.prog 89 = some ((some 64), 1) := by kernel_rfl
theorem sz_88 : sizeT Tryd.prog 88 = some 32 := by kernel_rfl
theorem sz_89 : sizeT Tryd.prog 89 = some 64 := by kernel_rfl
theorem sz_78 : sizeT Tryd.prog 78 = some 20 := by kernel_rfl
theorem sz_45 : sizeT Tryd.prog 45 = some 1 := by kernel_rfl
end Go.Proofs.YtedfjfpnpncgkaaDoor
