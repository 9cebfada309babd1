/- Facts on the types of the program's functions, each reckoned by the kernel. Written by a program. -/
import Derived.Test.YtmflapajjghpmaaProg
import Derived.Test.YtmflapajjghpmaaAmStr
import Derived.KernelRfl
namespace Go.Proofs.Ytmflapajjghpmaa
open Go.RowKit
theorem co_15 : codeOf Try.prog 15 = true := by kernel_rfl
theorem co_16 : codeOf Try.prog 16 = true := by kernel_rfl
theorem el_22 : elemOf Try.prog 22 = some (none, 1) := by kernel_rfl
theorem sz_3 : sizeT Try.prog 3 = some 1 := by kernel_rfl
theorem ld_3 : aggSize Try.prog 3 = some none := by kernel_rfl
theorem co_17 : codeOf Try.prog 17 = true := by kernel_rfl
theorem co_18 : codeOf Try.prog 18 = true := by kernel_rfl
theorem co_19 : codeOf Try.prog 19 = true := by kernel_rfl
theorem co_20 : codeOf Try.prog 20 = true := by kernel_rfl
theorem co_21 : codeOf Try.prog 21 = true := by kernel_rfl
theorem co_22 : codeOf Try.prog 22 = true := by kernel_rfl
theorem co_23 : codeOf Try.prog 23 = true := by kernel_rfl
theorem co_24 : codeOf Try.prog 24 = true := by kernel_rfl
theorem ze_40 : zeroOf Try.prog 40 = some (.agg #[(.int .u8 0), (.int .i64 0)]) := by kernel_rfl
theorem sz_40 : sizeT Try.prog 40 = some 2 := by kernel_rfl
theorem bu_40_ : buildV Try.prog 40 [] = some (.agg #[.int .u8 0, .int .i64 0]) := by kernel_rfl
theorem ld_40 : aggSize Try.prog 40 = some (some 2) := by kernel_rfl
theorem co_25 : codeOf Try.prog 25 = true := by kernel_rfl
theorem ez_22 : elemZeroOk Try.prog 22 = true := by kernel_rfl
theorem co_26 : codeOf Try.prog 26 = true := by kernel_rfl
theorem co_27 : codeOf Try.prog 27 = true := by kernel_rfl
theorem co_28 : codeOf Try.prog 28 = true := by kernel_rfl
theorem fd_40_0 : ∀ (a0 : Int) (a1 : Int), partAt Try.prog 40 0 (.agg #[.int .u8 a0, .int .i64 a1]) = some (.int .u8 a0) := by intros; kernel_rfl
theorem fo_40_0 : fieldOff Try.prog 40 0 = some 0 := by kernel_rfl
theorem ld_38 : aggSize Try.prog 38 = some none := by kernel_rfl
theorem co_29 : codeOf Try.prog 29 = true := by kernel_rfl
theorem co_30 : codeOf Try.prog 30 = true := by kernel_rfl
theorem co_31 : codeOf Try.prog 31 = true := by kernel_rfl
theorem co_32 : codeOf Try.prog 32 = true := by kernel_rfl
theorem co_33 : codeOf Try.prog 33 = true := by kernel_rfl
theorem bu_56_ : buildV Try.prog 56 [] = some (.agg #[.slice none 0 0, .map none]) := by kernel_rfl
theorem co_34 : codeOf Try.prog 34 = true := by kernel_rfl
theorem co_35 : codeOf Try.prog 35 = true := by kernel_rfl
theorem ze_62 : zeroOf Try.prog 62 = some (.agg #[(.int .i64 0), (.slice none 0 0), (.slice none 0 0)]) := by kernel_rfl
theorem sz_62 : sizeT Try.prog 62 = some 3 := by kernel_rfl
theorem el_60 : elemOf Try.prog 60 = some (none, 3) := by kernel_rfl
theorem ld_66 : aggSize Try.prog 66 = some (some 3) := by kernel_rfl
theorem ze_66 : zeroOf Try.prog 66 = some (.agg #[(.int .i64 0), (.int .i64 0), (.int .i64 0)]) := by kernel_rfl
theorem sz_66 : sizeT Try.prog 66 = some 3 := by kernel_rfl
theorem fo_66_0 : fieldOff Try.prog 66 0 = some 0 := by kernel_rfl
theorem fo_66_2 : fieldOff Try.prog 66 2 = some 2 := by kernel_rfl
theorem ld_62 : aggSize Try.prog 62 = some (some 3) := by kernel_rfl
theorem co_36 : codeOf Try.prog 36 = true := by kernel_rfl
theorem fo_66_1 : fieldOff Try.prog 66 1 = some 1 := by kernel_rfl
theorem co_37 : codeOf Try.prog 37 = true := by kernel_rfl
theorem co_38 : codeOf Try.prog 38 = true := by kernel_rfl
theorem co_39 : codeOf Try.prog 39 = true := by kernel_rfl
theorem co_40 : codeOf Try.prog 40 = true := by kernel_rfl
theorem co_41 : codeOf Try.prog 41 = true := by kernel_rfl
theorem fo_62_1 : fieldOff Try.prog 62 1 = some 1 := by kernel_rfl
theorem ld_22 : aggSize Try.prog 22 = some none := by kernel_rfl
theorem co_43 : codeOf Try.prog 43 = true := by kernel_rfl
theorem co_42 : codeOf Try.prog 42 = true := by kernel_rfl
theorem bu_74_ : buildV Try.prog 74 [] = some (.agg #[.bool false, .int .i64 0, .int .i64 0, .int .i64 0, .slice none 0 0, .slice none 0 0]) := by kernel_rfl
theorem el_75 : elemOf Try.prog 75 = some (none, 1) := by kernel_rfl
theorem ld_24 : aggSize Try.prog 24 = some none := by kernel_rfl
theorem co_44 : codeOf Try.prog 44 = true := by kernel_rfl
theorem el_77 : elemOf Try.prog 77 = some (none, 1) := by kernel_rfl
theorem ld_9 : aggSize Try.prog 9 = some none := by kernel_rfl
theorem co_45 : codeOf Try.prog 45 = true := by kernel_rfl
theorem co_46 : codeOf Try.prog 46 = true := by kernel_rfl
theorem fo_40_1 : fieldOff Try.prog 40 1 = some 1 := by kernel_rfl
theorem ld_2 : aggSize Try.prog 2 = some none := by kernel_rfl
theorem co_47 : codeOf Try.prog 47 = true := by kernel_rfl
theorem co_48 : codeOf Try.prog 48 = true := by kernel_rfl
theorem bu_40_0_1 : ∀ (a0 : Int) (a1 : Int), buildV Try.prog 40 [(0, .int .u8 a0), (1, .int .i64 a1)] = some (.agg #[.int .u8 a0, .int .i64 a1]) := by intros; kernel_rfl
theorem el_89 : elemOf Try.prog 89 = some (none, 6) := by kernel_rfl
theorem ld_92 : aggSize Try.prog 92 = some (some 6) := by kernel_rfl
theorem ze_92 : zeroOf Try.prog 92 = some (.agg #[(.int .i64 0), (.int .i64 0), (.int .i64 0), (.int .i64 0), (.int .i64 0), (.string ⟨#[]⟩)]) := by kernel_rfl
theorem sz_92 : sizeT Try.prog 92 = some 6 := by kernel_rfl
theorem fo_92_1 : fieldOff Try.prog 92 1 = some 1 := by kernel_rfl
theorem el_57 : elemOf Try.prog 57 = some (none, 2) := by kernel_rfl
theorem fo_92_0 : fieldOff Try.prog 92 0 = some 0 := by kernel_rfl
theorem co_49 : codeOf Try.prog 49 = true := by kernel_rfl
theorem co_50 : codeOf Try.prog 50 = true := by kernel_rfl
theorem co_51 : codeOf Try.prog 51 = true := by kernel_rfl
theorem co_52 : codeOf Try.prog 52 = true := by kernel_rfl
theorem ez_57 : elemZeroOk Try.prog 57 = true := by kernel_rfl
theorem co_53 : codeOf Try.prog 53 = true := by kernel_rfl
theorem co_54 : codeOf Try.prog 54 = true := by kernel_rfl
theorem co_55 : codeOf Try.prog 55 = true := by kernel_rfl
theorem co_56 : codeOf Try.prog 56 = true := by kernel_rfl
theorem co_57 : codeOf Try.prog 57 = true := by kernel_rfl
theorem co_58 : codeOf Try.prog 58 = true := by kernel_rfl
theorem co_59 : codeOf Try.prog 59 = true := by kernel_rfl
theorem bu_107_ : buildV Try.prog 107 [] = some (.agg #[.int .i64 0, .pointer none, .map none, .map none, .int .i64 0, .bool false, .map none]) := by kernel_rfl
theorem bu_110_ : buildV Try.prog 110 [] = some (.agg #[.pointer none, .int .i64 0, .int .i64 0, .map none, .slice none 0 0, .slice none 0 0]) := by kernel_rfl
theorem co_60 : codeOf Try.prog 60 = true := by kernel_rfl
theorem co_61 : codeOf Try.prog 61 = true := by kernel_rfl
theorem co_62 : codeOf Try.prog 62 = true := by kernel_rfl
theorem co_63 : codeOf Try.prog 63 = true := by kernel_rfl
theorem co_64 : codeOf Try.prog 64 = true := by kernel_rfl
theorem co_65 : codeOf Try.prog 65 = true := by kernel_rfl
theorem co_66 : codeOf Try.prog 66 = true := by kernel_rfl
theorem el_115 : elemOf Try.prog 115 = some (none, 1) := by kernel_rfl
theorem ld_78 : aggSize Try.prog 78 = some none := by kernel_rfl
theorem co_67 : codeOf Try.prog 67 = true := by kernel_rfl
theorem co_68 : codeOf Try.prog 68 = true := by kernel_rfl
theorem co_69 : codeOf Try.prog 69 = true := by kernel_rfl
theorem co_70 : codeOf Try.prog 70 = true := by kernel_rfl
theorem co_71 : codeOf Try.prog 71 = true := by kernel_rfl
theorem co_72 : codeOf Try.prog 72 = true := by kernel_rfl
theorem co_73 : codeOf Try.prog 73 = true := by kernel_rfl
theorem co_74 : codeOf Try.prog 74 = true := by kernel_rfl
theorem co_75 : codeOf Try.prog 75 = true := by kernel_rfl
theorem co_76 : codeOf Try.prog 76 = true := by kernel_rfl
theorem co_77 : codeOf Try.prog 77 = true := by kernel_rfl
theorem co_78 : codeOf Try.prog 78 = true := by kernel_rfl
theorem co_79 : codeOf Try.prog 79 = true := by kernel_rfl
theorem co_80 : codeOf Try.prog 80 = true := by kernel_rfl
theorem bu_74_0_1 : ∀ (a0 : Bool) (a1 : Int), buildV Try.prog 74 [(0, .bool a0), (1, .int .i64 a1)] = some (.agg #[.bool a0, .int .i64 a1, .int .i64 0, .int .i64 0, .slice none 0 0, .slice none 0 0]) := by intros; kernel_rfl
theorem co_81 : codeOf Try.prog 81 = true := by kernel_rfl
theorem co_82 : codeOf Try.prog 82 = true := by kernel_rfl
theorem fo_74_2 : fieldOff Try.prog 74 2 = some 2 := by kernel_rfl
theorem fo_74_4 : fieldOff Try.prog 74 4 = some 4 := by kernel_rfl
theorem fo_74_3 : fieldOff Try.prog 74 3 = some 3 := by kernel_rfl
theorem fo_74_5 : fieldOff Try.prog 74 5 = some 5 := by kernel_rfl
theorem sz_22 : sizeT Try.prog 22 = some 1 := by kernel_rfl
theorem co_83 : codeOf Try.prog 83 = true := by kernel_rfl
theorem fo_74_1 : fieldOff Try.prog 74 1 = some 1 := by kernel_rfl
theorem co_84 : codeOf Try.prog 84 = true := by kernel_rfl
theorem bu_56_1 : ∀ (a0 : Option Nat), buildV Try.prog 56 [(1, .map a0)] = some (.agg #[.slice none 0 0, .map a0]) := by intros; kernel_rfl
theorem co_85 : codeOf Try.prog 85 = true := by kernel_rfl
theorem co_86 : codeOf Try.prog 86 = true := by kernel_rfl
theorem fo_56_1 : fieldOff Try.prog 56 1 = some 1 := by kernel_rfl
theorem ld_54 : aggSize Try.prog 54 = some none := by kernel_rfl
theorem fo_56_0 : fieldOff Try.prog 56 0 = some 0 := by kernel_rfl
theorem ld_53 : aggSize Try.prog 53 = some none := by kernel_rfl
theorem el_53 : elemOf Try.prog 53 = some (none, 4) := by kernel_rfl
theorem fo_127_1 : fieldOff Try.prog 127 1 = some 2 := by kernel_rfl
theorem co_87 : codeOf Try.prog 87 = true := by kernel_rfl
theorem co_88 : codeOf Try.prog 88 = true := by kernel_rfl
theorem co_89 : codeOf Try.prog 89 = true := by kernel_rfl
theorem sz_53 : sizeT Try.prog 53 = some 1 := by kernel_rfl
theorem ld_127 : aggSize Try.prog 127 = some (some 4) := by kernel_rfl
theorem ze_127 : zeroOf Try.prog 127 = some (.agg #[(.int .u8 0), (.int .i64 0), (.int .u8 0), (.int .i64 0)]) := by kernel_rfl
theorem sz_127 : sizeT Try.prog 127 = some 4 := by kernel_rfl
theorem fo_127_0 : fieldOff Try.prog 127 0 = some 0 := by kernel_rfl
theorem bu_127_0_1 : ∀ (a0 : Int) (a1 : Int) (a2 : Int) (a3 : Int), buildV Try.prog 127 [(0, .agg #[.int .u8 a0, .int .i64 a1]), (1, .agg #[.int .u8 a2, .int .i64 a3])] = some (.agg #[.int .u8 a0, .int .i64 a1, .int .u8 a2, .int .i64 a3]) := by intros; kernel_rfl
theorem ez_53 : elemZeroOk Try.prog 53 = true := by kernel_rfl
theorem co_90 : codeOf Try.prog 90 = true := by kernel_rfl
theorem co_91 : codeOf Try.prog 91 = true := by kernel_rfl
theorem co_92 : codeOf Try.prog 92 = true := by kernel_rfl
theorem bu_62_ : buildV Try.prog 62 [] = some (.agg #[.int .i64 0, .slice none 0 0, .slice none 0 0]) := by kernel_rfl
theorem bu_62_0 : ∀ (a0 : Int), buildV Try.prog 62 [(0, .int .i64 a0)] = some (.agg #[.int .i64 a0, .slice none 0 0, .slice none 0 0]) := by intros; kernel_rfl
theorem fo_62_0 : fieldOff Try.prog 62 0 = some 0 := by kernel_rfl
theorem fo_62_2 : fieldOff Try.prog 62 2 = some 2 := by kernel_rfl
theorem co_93 : codeOf Try.prog 93 = true := by kernel_rfl
theorem ld_74 : aggSize Try.prog 74 = some (some 6) := by kernel_rfl
theorem ze_74 : zeroOf Try.prog 74 = some (.agg #[(.bool false), (.int .i64 0), (.int .i64 0), (.int .i64 0), (.slice none 0 0), (.slice none 0 0)]) := by kernel_rfl
theorem sz_74 : sizeT Try.prog 74 = some 6 := by kernel_rfl
theorem co_94 : codeOf Try.prog 94 = true := by kernel_rfl
theorem bu_107_0_1_2_3_6 : ∀ (a0 : Int) (a1 : Option Addr) (a2 : Option Nat) (a3 : Option Nat) (a4 : Option Nat), buildV Try.prog 107 [(0, .int .i64 a0), (1, .pointer a1), (2, .map a2), (3, .map a3), (6, .map a4)] = some (.agg #[.int .i64 a0, .pointer a1, .map a2, .map a3, .int .i64 0, .bool false, .map a4]) := by intros; kernel_rfl
theorem co_95 : codeOf Try.prog 95 = true := by kernel_rfl
theorem fo_107_3 : fieldOff Try.prog 107 3 = some 3 := by kernel_rfl
theorem ld_104 : aggSize Try.prog 104 = some none := by kernel_rfl
theorem co_96 : codeOf Try.prog 96 = true := by kernel_rfl
theorem bu_138_0_2 : ∀ (a0 : Int) (a1 : ByteArray), buildV Try.prog 138 [(0, .int .u8 a0), (2, .string a1)] = some (.agg #[.int .u8 a0, .int .i64 0, .string a1, .pointer none, .int .u8 0, .int .i64 0, .int .i64 0, .slice none 0 0, .int .u8 0, .int .i64 0, .pointer none]) := by intros; kernel_rfl
theorem co_97 : codeOf Try.prog 97 = true := by kernel_rfl
theorem co_98 : codeOf Try.prog 98 = true := by kernel_rfl
theorem fo_138_2 : fieldOff Try.prog 138 2 = some 2 := by kernel_rfl
theorem fo_107_2 : fieldOff Try.prog 107 2 = some 2 := by kernel_rfl
theorem ld_103 : aggSize Try.prog 103 = some none := by kernel_rfl
theorem co_101 : codeOf Try.prog 101 = true := by kernel_rfl
theorem co_100 : codeOf Try.prog 100 = true := by kernel_rfl
theorem co_99 : codeOf Try.prog 99 = true := by kernel_rfl
theorem fd_40_1 : ∀ (a0 : Int) (a1 : Int), partAt Try.prog 40 1 (.agg #[.int .u8 a0, .int .i64 a1]) = some (.int .i64 a1) := by intros; kernel_rfl
theorem co_102 : codeOf Try.prog 102 = true := by kernel_rfl
theorem bu_138_0_7 : ∀ (a0 : Int) (a1 : Int) (a2 : Int), buildV Try.prog 138 [(0, .int .u8 a0), (7, .agg #[.int .u8 a1, .int .i64 a2])] = some (.agg #[.int .u8 a0, .int .i64 0, .string ⟨#[]⟩, .pointer none, .int .u8 0, .int .i64 0, .int .i64 0, .slice none 0 0, .int .u8 a1, .int .i64 a2, .pointer none]) := by intros; kernel_rfl
theorem co_103 : codeOf Try.prog 103 = true := by kernel_rfl
theorem fo_138_0 : fieldOff Try.prog 138 0 = some 0 := by kernel_rfl
theorem fo_107_6 : fieldOff Try.prog 107 6 = some 6 := by kernel_rfl
theorem ld_105 : aggSize Try.prog 105 = some none := by kernel_rfl
theorem fo_107_1 : fieldOff Try.prog 107 1 = some 1 := by kernel_rfl
theorem bu_138_0_3 : ∀ (a0 : Int) (a1 : Option Addr), buildV Try.prog 138 [(0, .int .u8 a0), (3, .pointer a1)] = some (.agg #[.int .u8 a0, .int .i64 0, .string ⟨#[]⟩, .pointer a1, .int .u8 0, .int .i64 0, .int .i64 0, .slice none 0 0, .int .u8 0, .int .i64 0, .pointer none]) := by intros; kernel_rfl
theorem fo_138_3 : fieldOff Try.prog 138 3 = some 3 := by kernel_rfl
theorem ld_35 : aggSize Try.prog 35 = some none := by kernel_rfl
theorem fo_107_0 : fieldOff Try.prog 107 0 = some 0 := by kernel_rfl
theorem fo_138_7 : fieldOff Try.prog 138 7 = some 8 := by kernel_rfl
theorem bu_110_0 : ∀ (a0 : Option Addr), buildV Try.prog 110 [(0, .pointer a0)] = some (.agg #[.pointer a0, .int .i64 0, .int .i64 0, .map none, .slice none 0 0, .slice none 0 0]) := by intros; kernel_rfl
theorem co_104 : codeOf Try.prog 104 = true := by kernel_rfl
theorem fo_110_1 : fieldOff Try.prog 110 1 = some 1 := by kernel_rfl
theorem fo_110_4 : fieldOff Try.prog 110 4 = some 4 := by kernel_rfl
theorem ld_57 : aggSize Try.prog 57 = some none := by kernel_rfl
theorem co_105 : codeOf Try.prog 105 = true := by kernel_rfl
theorem co_106 : codeOf Try.prog 106 = true := by kernel_rfl
theorem fo_110_5 : fieldOff Try.prog 110 5 = some 5 := by kernel_rfl
theorem fo_110_0 : fieldOff Try.prog 110 0 = some 0 := by kernel_rfl
theorem fo_110_2 : fieldOff Try.prog 110 2 = some 2 := by kernel_rfl
theorem fo_110_3 : fieldOff Try.prog 110 3 = some 3 := by kernel_rfl
theorem ld_108 : aggSize Try.prog 108 = some none := by kernel_rfl
theorem sz_57 : sizeT Try.prog 57 = some 1 := by kernel_rfl
theorem sz_108 : sizeT Try.prog 108 = some 1 := by kernel_rfl
theorem co_107 : codeOf Try.prog 107 = true := by kernel_rfl
theorem co_108 : codeOf Try.prog 108 = true := by kernel_rfl
theorem fo_153_0 : fieldOff Try.prog 153 0 = some 0 := by kernel_rfl
theorem fo_153_1 : fieldOff Try.prog 153 1 = some 1 := by kernel_rfl
theorem ld_100 : aggSize Try.prog 100 = some none := by kernel_rfl
theorem co_109 : codeOf Try.prog 109 = true := by kernel_rfl
theorem co_110 : codeOf Try.prog 110 = true := by kernel_rfl
theorem co_111 : codeOf Try.prog 111 = true := by kernel_rfl
theorem bu_138_0_5_6 : ∀ (a0 : Int) (a1 : Int) (a2 : Option Addr) (b2 c2 : Nat), buildV Try.prog 138 [(0, .int .u8 a0), (5, .int .i64 a1), (6, .slice a2 b2 c2)] = some (.agg #[.int .u8 a0, .int .i64 0, .string ⟨#[]⟩, .pointer none, .int .u8 0, .int .i64 0, .int .i64 a1, .slice a2 b2 c2, .int .u8 0, .int .i64 0, .pointer none]) := by intros; kernel_rfl
theorem bu_159_ : buildV Try.prog 159 [] = some (.agg #[.int .u8 0, .slice none 0 0, .slice none 0 0, .int .i64 0]) := by kernel_rfl
theorem bu_138_0_8 : ∀ (a0 : Int) (a1 : Option Addr), buildV Try.prog 138 [(0, .int .u8 a0), (8, .pointer a1)] = some (.agg #[.int .u8 a0, .int .i64 0, .string ⟨#[]⟩, .pointer none, .int .u8 0, .int .i64 0, .int .i64 0, .slice none 0 0, .int .u8 0, .int .i64 0, .pointer a1]) := by intros; kernel_rfl
theorem fo_138_5 : fieldOff Try.prog 138 5 = some 6 := by kernel_rfl
theorem fo_107_5 : fieldOff Try.prog 107 5 = some 5 := by kernel_rfl
theorem sz_4 : sizeT Try.prog 4 = some 1 := by kernel_rfl
theorem fo_138_4 : fieldOff Try.prog 138 4 = some 4 := by kernel_rfl
theorem fo_138_8 : fieldOff Try.prog 138 8 = some 10 := by kernel_rfl
theorem ld_121 : aggSize Try.prog 121 = some none := by kernel_rfl
theorem ze_57 : zeroOf Try.prog 57 = some (.slice none 0 0) := by kernel_rfl
theorem co_112 : codeOf Try.prog 112 = true := by kernel_rfl
theorem fo_138_6 : fieldOff Try.prog 138 6 = some 7 := by kernel_rfl
theorem co_114 : codeOf Try.prog 114 = true := by kernel_rfl
theorem co_115 : codeOf Try.prog 115 = true := by kernel_rfl
theorem fo_138_1 : fieldOff Try.prog 138 1 = some 1 := by kernel_rfl
theorem fo_74_0 : fieldOff Try.prog 74 0 = some 0 := by kernel_rfl
theorem ld_4 : aggSize Try.prog 4 = some none := by kernel_rfl
theorem ze_3 : zeroOf Try.prog 3 = some (.int .i64 0) := by kernel_rfl
theorem co_116 : codeOf Try.prog 116 = true := by kernel_rfl
theorem fo_107_4 : fieldOff Try.prog 107 4 = some 4 := by kernel_rfl
theorem sz_2 : sizeT Try.prog 2 = some 1 := by kernel_rfl
theorem co_117 : codeOf Try.prog 117 = true := by kernel_rfl
theorem co_118 : codeOf Try.prog 118 = true := by kernel_rfl
theorem co_119 : codeOf Try.prog 119 = true := by kernel_rfl
theorem co_113 : codeOf Try.prog 113 = true := by kernel_rfl
theorem co_120 : codeOf Try.prog 120 = true := by kernel_rfl
theorem co_121 : codeOf Try.prog 121 = true := by kernel_rfl
theorem bu_169_0 : ∀ (a0 : Option Addr), buildV Try.prog 169 [(0, .pointer a0)] = some (.agg #[.pointer a0, .int .i64 0, .int .i64 0, .slice none 0 0, .slice none 0 0, .slice none 0 0]) := by intros; kernel_rfl
theorem bu_153_0_1_2_3 : ∀ (a0 : Option Addr) (a1 : Option Addr) (a2 : Option Addr) (a3 : Option Addr), buildV Try.prog 153 [(0, .pointer a0), (1, .pointer a1), (2, .pointer a2), (3, .pointer a3)] = some (.agg #[.pointer a0, .pointer a1, .pointer a2, .pointer a3, .slice none 0 0]) := by intros; kernel_rfl
theorem co_122 : codeOf Try.prog 122 = true := by kernel_rfl
theorem fo_159_3 : fieldOff Try.prog 159 3 = some 3 := by kernel_rfl
theorem fo_159_2 : fieldOff Try.prog 159 2 = some 2 := by kernel_rfl
theorem fo_159_1 : fieldOff Try.prog 159 1 = some 1 := by kernel_rfl
theorem ld_157 : aggSize Try.prog 157 = some none := by kernel_rfl
theorem el_157 : elemOf Try.prog 157 = some (none, 13) := by kernel_rfl
theorem ld_177 : aggSize Try.prog 177 = some (some 13) := by kernel_rfl
theorem ze_177 : zeroOf Try.prog 177 = some (.agg #[(.int .u8 0), (.int .u8 0), (.int .i64 0), (.int .i64 0), (.int .i64 0), (.slice none 0 0), (.slice none 0 0), (.slice none 0 0), (.slice none 0 0), (.int .i64 0), (.slice none 0 0), (.bool false), (.int .i64 0)]) := by kernel_rfl
theorem sz_177 : sizeT Try.prog 177 = some 13 := by kernel_rfl
theorem fo_177_1 : fieldOff Try.prog 177 1 = some 1 := by kernel_rfl
theorem ld_175 : aggSize Try.prog 175 = some (some 12) := by kernel_rfl
theorem ze_175 : zeroOf Try.prog 175 = some (.agg #[(.int .u8 0), (.int .i64 0), (.int .i64 0), (.int .i64 0), (.slice none 0 0), (.slice none 0 0), (.slice none 0 0), (.slice none 0 0), (.int .i64 0), (.slice none 0 0), (.bool false), (.int .i64 0)]) := by kernel_rfl
theorem sz_175 : sizeT Try.prog 175 = some 12 := by kernel_rfl
theorem fo_175_2 : fieldOff Try.prog 175 2 = some 2 := by kernel_rfl
theorem fo_175_4 : fieldOff Try.prog 175 4 = some 4 := by kernel_rfl
theorem fo_175_5 : fieldOff Try.prog 175 5 = some 5 := by kernel_rfl
theorem fo_175_7 : fieldOff Try.prog 175 7 = some 7 := by kernel_rfl
theorem fo_175_9 : fieldOff Try.prog 175 9 = some 9 := by kernel_rfl
theorem el_178 : elemOf Try.prog 178 = some (none, 1) := by kernel_rfl
theorem co_123 : codeOf Try.prog 123 = true := by kernel_rfl
theorem co_125 : codeOf Try.prog 125 = true := by kernel_rfl
theorem co_124 : codeOf Try.prog 124 = true := by kernel_rfl
theorem bu_184_0 : ∀ (a0 : Int), buildV Try.prog 184 [(0, .int .i64 a0)] = some (.agg #[.int .i64 a0, .slice none 0 0, .int .i64 0, .bool false]) := by intros; kernel_rfl
theorem co_126 : codeOf Try.prog 126 = true := by kernel_rfl
theorem co_127 : codeOf Try.prog 127 = true := by kernel_rfl
theorem co_128 : codeOf Try.prog 128 = true := by kernel_rfl
theorem co_129 : codeOf Try.prog 129 = true := by kernel_rfl
theorem co_130 : codeOf Try.prog 130 = true := by kernel_rfl
theorem co_131 : codeOf Try.prog 131 = true := by kernel_rfl
theorem co_132 : codeOf Try.prog 132 = true := by kernel_rfl
theorem co_133 : codeOf Try.prog 133 = true := by kernel_rfl
theorem co_134 : codeOf Try.prog 134 = true := by kernel_rfl
theorem co_135 : codeOf Try.prog 135 = true := by kernel_rfl
theorem co_136 : codeOf Try.prog 136 = true := by kernel_rfl
theorem co_137 : codeOf Try.prog 137 = true := by kernel_rfl
theorem ze_196 : zeroOf Try.prog 196 = some (.int .u64 0) := by kernel_rfl
theorem sz_196 : sizeT Try.prog 196 = some 1 := by kernel_rfl
theorem co_138 : codeOf Try.prog 138 = true := by kernel_rfl
theorem co_139 : codeOf Try.prog 139 = true := by kernel_rfl
theorem co_140 : codeOf Try.prog 140 = true := by kernel_rfl
theorem co_141 : codeOf Try.prog 141 = true := by kernel_rfl
theorem co_142 : codeOf Try.prog 142 = true := by kernel_rfl
theorem ld_196 : aggSize Try.prog 196 = some none := by kernel_rfl
theorem co_143 : codeOf Try.prog 143 = true := by kernel_rfl
end Go.Proofs.Ytmflapajjghpmaa
