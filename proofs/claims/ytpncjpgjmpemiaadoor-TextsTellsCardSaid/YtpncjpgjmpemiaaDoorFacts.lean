/- Facts on the types of the program's functions, each reckoned by the kernel. Written by a program. -/
import Derived.Test.YtpncjpgjmpemiaaDoorProg
import Derived.Test.YtpncjpgjmpemiaaDoorAmC
import Derived.KernelRfl
namespace Go.Proofs.YtpncjpgjmpemiaaDoor
open Go.RowKit
theorem el_22 : elemOf Tryd.prog 22 = some (none, 1) := by kernel_rfl
theorem ld_9 : aggSize Tryd.prog 9 = some none := by kernel_rfl
theorem co_12 : codeOf Tryd.prog 12 = true := by kernel_rfl
theorem co_13 : codeOf Tryd.prog 13 = true := by kernel_rfl
theorem co_14 : codeOf Tryd.prog 14 = true := by kernel_rfl
theorem co_15 : codeOf Tryd.prog 15 = true := by kernel_rfl
theorem co_16 : codeOf Tryd.prog 16 = true := by kernel_rfl
theorem co_17 : codeOf Tryd.prog 17 = true := by kernel_rfl
theorem co_18 : codeOf Tryd.prog 18 = true := by kernel_rfl
theorem co_19 : codeOf Tryd.prog 19 = true := by kernel_rfl
theorem co_20 : codeOf Tryd.prog 20 = true := by kernel_rfl
theorem co_21 : codeOf Tryd.prog 21 = true := by kernel_rfl
theorem co_22 : codeOf Tryd.prog 22 = true := by kernel_rfl
theorem co_23 : codeOf Tryd.prog 23 = true := by kernel_rfl
theorem co_24 : codeOf Tryd.prog 24 = true := by kernel_rfl
theorem co_25 : codeOf Tryd.prog 25 = true := by kernel_rfl
theorem co_26 : codeOf Tryd.prog 26 = true := by kernel_rfl
theorem el_42 : elemOf Tryd.prog 42 = some (none, 4) := by kernel_rfl
theorem ld_41 : aggSize Tryd.prog 41 = some (some 4) := by kernel_rfl
theorem ze_41 : zeroOf Tryd.prog 41 = some (.agg #[(.int .i64 0), (.int .i64 0), (.int .i64 0), (.int .i64 0)]) := by kernel_rfl
theorem sz_41 : sizeT Tryd.prog 41 = some 4 := by kernel_rfl
theorem el_41 : elemOf Tryd.prog 41 = some ((some 4), 1) := by kernel_rfl
theorem ld_2 : aggSize Tryd.prog 2 = some none := by kernel_rfl
theorem co_27 : codeOf Tryd.prog 27 = true := by kernel_rfl
theorem co_28 : codeOf Tryd.prog 28 = true := by kernel_rfl
theorem co_29 : codeOf Tryd.prog 29 = true := by kernel_rfl
theorem co_30 : codeOf Tryd.prog 30 = true := by kernel_rfl
theorem co_31 : codeOf Tryd.prog 31 = true := by kernel_rfl
theorem co_32 : codeOf Tryd.prog 32 = true := by kernel_rfl
theorem co_33 : codeOf Tryd.prog 33 = true := by kernel_rfl
theorem co_34 : codeOf Tryd.prog 34 = true := by kernel_rfl
theorem ze_53 : zeroOf Tryd.prog 53 = some (.agg #[(.pointer none), (.slice none 0 0)]) := by kernel_rfl
theorem co_35 : codeOf Tryd.prog 35 = true := by kernel_rfl
theorem co_36 : codeOf Tryd.prog 36 = true := by kernel_rfl
theorem co_37 : codeOf Tryd.prog 37 = true := by kernel_rfl
theorem co_38 : codeOf Tryd.prog 38 = true := by kernel_rfl
theorem co_39 : codeOf Tryd.prog 39 = true := by kernel_rfl
theorem co_40 : codeOf Tryd.prog 40 = true := by kernel_rfl
theorem co_41 : codeOf Tryd.prog 41 = true := by kernel_rfl
theorem co_42 : codeOf Tryd.prog 42 = true := by kernel_rfl
theorem co_43 : codeOf Tryd.prog 43 = true := by kernel_rfl
theorem co_44 : codeOf Tryd.prog 44 = true := by kernel_rfl
theorem co_45 : codeOf Tryd.prog 45 = true := by kernel_rfl
theorem co_46 : codeOf Tryd.prog 46 = true := by kernel_rfl
theorem co_47 : codeOf Tryd.prog 47 = true := by kernel_rfl
theorem co_48 : codeOf Tryd.prog 48 = true := by kernel_rfl
theorem co_49 : codeOf Tryd.prog 49 = true := by kernel_rfl
theorem sz_9 : sizeT Tryd.prog 9 = some 1 := by kernel_rfl
theorem co_51 : codeOf Tryd.prog 51 = true := by kernel_rfl
theorem co_52 : codeOf Tryd.prog 52 = true := by kernel_rfl
theorem co_53 : codeOf Tryd.prog 53 = true := by kernel_rfl
theorem co_54 : codeOf Tryd.prog 54 = true := by kernel_rfl
theorem co_55 : codeOf Tryd.prog 55 = true := by kernel_rfl
theorem co_56 : codeOf Tryd.prog 56 = true := by kernel_rfl
theorem co_57 : codeOf Tryd.prog 57 = true := by kernel_rfl
theorem co_50 : codeOf Tryd.prog 50 = true := by kernel_rfl
theorem co_58 : codeOf Tryd.prog 58 = true := by kernel_rfl
theorem co_59 : codeOf Tryd.prog 59 = true := by kernel_rfl
theorem co_60 : codeOf Tryd.prog 60 = true := by kernel_rfl
theorem fo_53_1 : fieldOff Tryd.prog 53 1 = some 1 := by kernel_rfl
theorem ld_51 : aggSize Tryd.prog 51 = some none := by kernel_rfl
theorem ez_51 : elemZeroOk Tryd.prog 51 = true := by kernel_rfl
theorem sz_51 : sizeT Tryd.prog 51 = some 1 := by kernel_rfl
theorem co_61 : codeOf Tryd.prog 61 = true := by kernel_rfl
theorem co_62 : codeOf Tryd.prog 62 = true := by kernel_rfl
theorem co_63 : codeOf Tryd.prog 63 = true := by kernel_rfl
theorem co_64 : codeOf Tryd.prog 64 = true := by kernel_rfl
theorem co_65 : codeOf Tryd.prog 65 = true := by kernel_rfl
theorem co_66 : codeOf Tryd.prog 66 = true := by kernel_rfl
theorem co_67 : codeOf Tryd.prog 67 = true := by kernel_rfl
theorem co_68 : codeOf Tryd.prog 68 = true := by kernel_rfl
theorem co_69 : codeOf Tryd.prog 69 = true := by kernel_rfl
theorem co_70 : codeOf Tryd.prog 70 = true := by kernel_rfl
theorem co_71 : codeOf Tryd.prog 71 = true := by kernel_rfl
theorem co_72 : codeOf Tryd.prog 72 = true := by kernel_rfl
theorem co_73 : codeOf Tryd.prog 73 = true := by kernel_rfl
theorem co_74 : codeOf Tryd.prog 74 = true := by kernel_rfl
theorem el_51 : elemOf Tryd.prog 51 = some (none, 1) := by kernel_rfl
theorem sz_5 : sizeT Tryd.prog 5 = some 1 := by kernel_rfl
theorem fo_53_0 : fieldOff Tryd.prog 53 0 = some 0 := by kernel_rfl
theorem ld_50 : aggSize Tryd.prog 50 = some none := by kernel_rfl
theorem sz_50 : sizeT Tryd.prog 50 = some 1 := by kernel_rfl
theorem co_76 : codeOf Tryd.prog 76 = true := by kernel_rfl
theorem el_91 : elemOf Tryd.prog 91 = some (none, 1) := by kernel_rfl
theorem ld_3 : aggSize Tryd.prog 3 = some none := by kernel_rfl
theorem ld_5 : aggSize Tryd.prog 5 = some none := by kernel_rfl
theorem co_78 : codeOf Tryd.prog 78 = true := by kernel_rfl
theorem ze_93 : zeroOf Tryd.prog 93 = some (.agg #[(.int .u8 0), (.int .u8 0), (.int .u8 0), (.int .u8 0), (.int .u8 0), (.int .u8 0), (.int .u8 0), (.int .u8 0), (.int .u8 0), (.int .u8 0), (.int .u8 0), (.int .u8 0), (.int .u8 0), (.int .u8 0), (.int .u8 0), (.int .u8 0), (.int .u8 0), (.int .u8 0), (.int .u8 0), (.int .u8 0), (.int .u8 0), (.int .u8 0), (.int .u8 0), (.int .u8 0)]) := by kernel_rfl
theorem co_79 : codeOf Tryd.prog 79 = true := by kernel_rfl
theorem co_80 : codeOf Tryd.prog 80 = true := by kernel_rfl
theorem el_93 : elemOf Tryd.prog 93 = some ((some 24), 1) := by kernel_rfl
theorem co_81 : codeOf Tryd.prog 81 = true := by kernel_rfl
theorem co_82 : codeOf Tryd.prog 82 = true := by kernel_rfl
theorem co_83 : codeOf Tryd.prog 83 = true := by kernel_rfl
theorem co_84 : codeOf Tryd.prog 84 = true := by kernel_rfl
theorem co_85 : codeOf Tryd.prog 85 = true := by kernel_rfl
theorem co_86 : codeOf Tryd.prog 86 = true := by kernel_rfl
theorem co_87 : codeOf Tryd.prog 87 = true := by kernel_rfl
theorem co_89 : codeOf Tryd.prog 89 = true := by kernel_rfl
theorem co_90 : codeOf Tryd.prog 90 = true := by kernel_rfl
theorem co_92 : codeOf Tryd.prog 92 = true := by kernel_rfl
theorem co_91 : codeOf Tryd.prog 91 = true := by kernel_rfl
theorem el_107 : elemOf Tryd.prog 107 = some ((some 20), 1) := by kernel_rfl
theorem ld_69 : aggSize Tryd.prog 69 = some none := by kernel_rfl
theorem co_93 : codeOf Tryd.prog 93 = true := by kernel_rfl
theorem ze_109 : zeroOf Tryd.prog 109 = some (.agg #[(.int .u8 0), (.int .u8 0), (.int .u8 0), (.int .u8 0), (.int .u8 0), (.int .u8 0), (.int .u8 0), (.int .u8 0), (.int .u8 0), (.int .u8 0), (.int .u8 0), (.int .u8 0), (.int .u8 0), (.int .u8 0), (.int .u8 0), (.int .u8 0), (.int .u8 0), (.int .u8 0), (.int .u8 0), (.int .u8 0), (.int .u8 0), (.int .u8 0), (.int .u8 0), (.int .u8 0), (.int .u8 0), (.int .u8 0), (.int .u8 0), (.int .u8 0), (.int .u8 0), (.int .u8 0), (.int .u8 0), (.int .u8 0), (.int .u8 0), (.int .u8 0), (.int .u8 0), (.int .u8 0), (.int .u8 0), (.int .u8 0), (.int .u8 0), (.int .u8 0), (.int .u8 0), (.int .u8 0), (.int .u8 0), (.int .u8 0), (.int .u8 0), (.int .u8 0), (.int .u8 0), (.int .u8 0), (.int .u8 0), (.int .u8 0), (.int .u8 0), (.int .u8 0), (.int .u8 0), (.int .u8 0), (.int .u8 0), (.int .u8 0), (.int .u8 0), (.int .u8 0), (.int .u8 0), (.int .u8 0), (.int .u8 0), (.int .u8 0), (.int .u8 0), (.int .u8 0), (.int .u8 0)]) := by kernel_rfl
theorem co_94 : codeOf Tryd.prog 94 = true := by kernel_rfl
theorem co_95 : codeOf Tryd.prog 95 = true := by kernel_rfl
theorem el_109 : elemOf Tryd.prog 109 = some ((some 65), 1) := by kernel_rfl
theorem co_96 : codeOf Tryd.prog 96 = true := by kernel_rfl
theorem co_97 : codeOf Tryd.prog 97 = true := by kernel_rfl
theorem co_98 : codeOf Tryd.prog 98 = true := by kernel_rfl
theorem ld_57 : aggSize Tryd.prog 57 = some none := by kernel_rfl
theorem co_100 : codeOf Tryd.prog 100 = true := by kernel_rfl
theorem co_99 : codeOf Tryd.prog 99 = true := by kernel_rfl
theorem co_102 : codeOf Tryd.prog 102 = true := by kernel_rfl
theorem co_103 : codeOf Tryd.prog 103 = true := by kernel_rfl
theorem co_104 : codeOf Tryd.prog 104 = true := by kernel_rfl
theorem bu_122_0 : ∀ (a0 : ByteArray), buildV Tryd.prog 122 [(0, .string a0)] = some (.agg #[.string a0]) := by intros; kernel_rfl
theorem co_105 : codeOf Tryd.prog 105 = true := by kernel_rfl
theorem el_123 : elemOf Tryd.prog 123 = some ((some 32), 1) := by kernel_rfl
theorem el_124 : elemOf Tryd.prog 124 = some ((some 64), 1) := by kernel_rfl
theorem sz_123 : sizeT Tryd.prog 123 = some 32 := by kernel_rfl
theorem sz_124 : sizeT Tryd.prog 124 = some 64 := by kernel_rfl
theorem sz_107 : sizeT Tryd.prog 107 = some 20 := by kernel_rfl
theorem sz_57 : sizeT Tryd.prog 57 = some 1 := by kernel_rfl
end Go.Proofs.YtpncjpgjmpemiaaDoor
