/- Facts on the types of the program's functions, each reckoned by the kernel. Written by a program. -/
import Derived.Test.YtdfadipfhcikdaaGreatDoorProg
import Derived.Test.YtdfadipfhcikdaaGreatDoorAmGo
import Derived.KernelRfl
namespace Go.Proofs.YtdfadipfhcikdaaGreatDoor
open Go.RowKit
theorem co_4 : codeOf Tryz.prog 4 = true := by kernel_rfl
theorem co_5 : codeOf Tryz.prog 5 = true := by kernel_rfl
theorem ze_29 : zeroOf Tryz.prog 29 = some (.agg #[(.int .u8 0), (.int .i64 0)]) := by kernel_rfl
theorem sz_29 : sizeT Tryz.prog 29 = some 2 := by kernel_rfl
theorem el_22 : elemOf Tryz.prog 22 = some (none, 1) := by kernel_rfl
theorem ld_4 : aggSize Tryz.prog 4 = some none := by kernel_rfl
theorem ld_29 : aggSize Tryz.prog 29 = some (some 2) := by kernel_rfl
theorem co_7 : codeOf Tryz.prog 7 = true := by kernel_rfl
theorem co_6 : codeOf Tryz.prog 6 = true := by kernel_rfl
theorem ez_32 : elemZeroOk Tryz.prog 32 = true := by kernel_rfl
theorem co_9 : codeOf Tryz.prog 9 = true := by kernel_rfl
theorem co_8 : codeOf Tryz.prog 8 = true := by kernel_rfl
theorem ze_37 : zeroOf Tryz.prog 37 = some (.agg #[(.int .u8 0), (.slice none 0 0), (.bool false), (.string ⟨#[]⟩)]) := by kernel_rfl
theorem sz_37 : sizeT Tryz.prog 37 = some 4 := by kernel_rfl
theorem fo_37_0 : fieldOff Tryz.prog 37 0 = some 0 := by kernel_rfl
theorem ld_35 : aggSize Tryz.prog 35 = some none := by kernel_rfl
theorem fo_37_1 : fieldOff Tryz.prog 37 1 = some 1 := by kernel_rfl
theorem ld_32 : aggSize Tryz.prog 32 = some none := by kernel_rfl
theorem el_32 : elemOf Tryz.prog 32 = some (none, 2) := by kernel_rfl
theorem fo_29_0 : fieldOff Tryz.prog 29 0 = some 0 := by kernel_rfl
theorem ld_27 : aggSize Tryz.prog 27 = some none := by kernel_rfl
theorem fo_29_1 : fieldOff Tryz.prog 29 1 = some 1 := by kernel_rfl
theorem ld_2 : aggSize Tryz.prog 2 = some none := by kernel_rfl
theorem co_10 : codeOf Tryz.prog 10 = true := by kernel_rfl
theorem co_11 : codeOf Tryz.prog 11 = true := by kernel_rfl
theorem co_12 : codeOf Tryz.prog 12 = true := by kernel_rfl
theorem bu_50_0_1_2_3_6 : ∀ (a0 : Int) (a1 : Option Addr) (a2 : Option Nat) (a3 : Option Nat) (a4 : Option Nat), buildV Tryz.prog 50 [(0, .int .i64 a0), (1, .pointer a1), (2, .map a2), (3, .map a3), (6, .map a4)] = some (.agg #[.int .i64 a0, .pointer a1, .map a2, .map a3, .int .i64 0, .bool false, .map a4]) := by intros; kernel_rfl
theorem co_13 : codeOf Tryz.prog 13 = true := by kernel_rfl
theorem bu_29_ : buildV Tryz.prog 29 [] = some (.agg #[.int .u8 0, .int .i64 0]) := by kernel_rfl
theorem co_15 : codeOf Tryz.prog 15 = true := by kernel_rfl
theorem bu_57_0_3 : ∀ (a0 : Int) (a1 : Option Addr), buildV Tryz.prog 57 [(0, .int .u8 a0), (3, .pointer a1)] = some (.agg #[.int .u8 a0, .int .i64 0, .string ⟨#[]⟩, .pointer a1, .int .u8 0, .int .i64 0, .int .i64 0, .slice none 0 0, .int .u8 0, .int .i64 0, .pointer none]) := by intros; kernel_rfl
theorem co_14 : codeOf Tryz.prog 14 = true := by kernel_rfl
theorem co_16 : codeOf Tryz.prog 16 = true := by kernel_rfl
theorem co_17 : codeOf Tryz.prog 17 = true := by kernel_rfl
theorem fo_57_3 : fieldOff Tryz.prog 57 3 = some 3 := by kernel_rfl
theorem ld_53 : aggSize Tryz.prog 53 = some none := by kernel_rfl
theorem co_18 : codeOf Tryz.prog 18 = true := by kernel_rfl
theorem fd_29_0 : ∀ (a0 : Int) (a1 : Int), partAt Tryz.prog 29 0 (.agg #[.int .u8 a0, .int .i64 a1]) = some (.int .u8 a0) := by intros; kernel_rfl
theorem fo_50_1 : fieldOff Tryz.prog 50 1 = some 1 := by kernel_rfl
theorem ld_43 : aggSize Tryz.prog 43 = some none := by kernel_rfl
theorem co_19 : codeOf Tryz.prog 19 = true := by kernel_rfl
theorem fo_50_0 : fieldOff Tryz.prog 50 0 = some 0 := by kernel_rfl
theorem ld_3 : aggSize Tryz.prog 3 = some none := by kernel_rfl
theorem co_20 : codeOf Tryz.prog 20 = true := by kernel_rfl
theorem co_22 : codeOf Tryz.prog 22 = true := by kernel_rfl
theorem co_21 : codeOf Tryz.prog 21 = true := by kernel_rfl
theorem co_23 : codeOf Tryz.prog 23 = true := by kernel_rfl
theorem bu_29_0_1 : ∀ (a0 : Int) (a1 : Int), buildV Tryz.prog 29 [(0, .int .u8 a0), (1, .int .i64 a1)] = some (.agg #[.int .u8 a0, .int .i64 a1]) := by intros; kernel_rfl
theorem ld_37 : aggSize Tryz.prog 37 = some (some 4) := by kernel_rfl
theorem co_24 : codeOf Tryz.prog 24 = true := by kernel_rfl
theorem ld_23 : aggSize Tryz.prog 23 = some none := by kernel_rfl
theorem bu_68_0_1_2 : ∀ (a0 : Option Addr) (a1 : ByteArray) (a2 : Option Addr) (b2 c2 : Nat), buildV Tryz.prog 68 [(0, .pointer a0), (1, .string a1), (2, .slice a2 b2 c2)] = some (.agg #[.pointer a0, .string a1, .slice a2 b2 c2]) := by intros; kernel_rfl
theorem co_25 : codeOf Tryz.prog 25 = true := by kernel_rfl
theorem el_65 : elemOf Tryz.prog 65 = some (none, 1) := by kernel_rfl
theorem ld_9 : aggSize Tryz.prog 9 = some none := by kernel_rfl
theorem ze_68 : zeroOf Tryz.prog 68 = some (.agg #[(.pointer none), (.string ⟨#[]⟩), (.slice none 0 0)]) := by kernel_rfl
theorem sz_68 : sizeT Tryz.prog 68 = some 3 := by kernel_rfl
theorem ld_68 : aggSize Tryz.prog 68 = some (some 3) := by kernel_rfl
theorem co_26 : codeOf Tryz.prog 26 = true := by kernel_rfl
theorem co_27 : codeOf Tryz.prog 27 = true := by kernel_rfl
theorem co_28 : codeOf Tryz.prog 28 = true := by kernel_rfl
theorem co_29 : codeOf Tryz.prog 29 = true := by kernel_rfl
theorem co_30 : codeOf Tryz.prog 30 = true := by kernel_rfl
theorem co_31 : codeOf Tryz.prog 31 = true := by kernel_rfl
theorem co_32 : codeOf Tryz.prog 32 = true := by kernel_rfl
theorem co_36 : codeOf Tryz.prog 36 = true := by kernel_rfl
theorem co_37 : codeOf Tryz.prog 37 = true := by kernel_rfl
theorem co_40 : codeOf Tryz.prog 40 = true := by kernel_rfl
theorem co_41 : codeOf Tryz.prog 41 = true := by kernel_rfl
theorem co_44 : codeOf Tryz.prog 44 = true := by kernel_rfl
theorem co_46 : codeOf Tryz.prog 46 = true := by kernel_rfl
theorem fo_68_1 : fieldOff Tryz.prog 68 1 = some 1 := by kernel_rfl
theorem co_48 : codeOf Tryz.prog 48 = true := by kernel_rfl
theorem bu_37_0 : ∀ (a0 : Int), buildV Tryz.prog 37 [(0, .int .u8 a0)] = some (.agg #[.int .u8 a0, .slice none 0 0, .bool false, .string ⟨#[]⟩]) := by intros; kernel_rfl
theorem co_35 : codeOf Tryz.prog 35 = true := by kernel_rfl
theorem co_49 : codeOf Tryz.prog 49 = true := by kernel_rfl
theorem co_38 : codeOf Tryz.prog 38 = true := by kernel_rfl
theorem co_50 : codeOf Tryz.prog 50 = true := by kernel_rfl
theorem co_51 : codeOf Tryz.prog 51 = true := by kernel_rfl
theorem co_52 : codeOf Tryz.prog 52 = true := by kernel_rfl
theorem co_53 : codeOf Tryz.prog 53 = true := by kernel_rfl
theorem co_54 : codeOf Tryz.prog 54 = true := by kernel_rfl
theorem co_55 : codeOf Tryz.prog 55 = true := by kernel_rfl
theorem fo_89_2 : fieldOff Tryz.prog 89 2 = some 2 := by kernel_rfl
theorem fo_89_0 : fieldOff Tryz.prog 89 0 = some 0 := by kernel_rfl
theorem fo_37_2 : fieldOff Tryz.prog 37 2 = some 2 := by kernel_rfl
theorem fo_37_3 : fieldOff Tryz.prog 37 3 = some 3 := by kernel_rfl
theorem bu_92_0_1 : ∀ (a0 : Bool) (a1 : Int), buildV Tryz.prog 92 [(0, .bool a0), (1, .int .i64 a1)] = some (.agg #[.bool a0, .int .i64 a1, .int .i64 0, .int .i64 0, .slice none 0 0, .slice none 0 0]) := by intros; kernel_rfl
theorem fo_50_2 : fieldOff Tryz.prog 50 2 = some 2 := by kernel_rfl
theorem ld_46 : aggSize Tryz.prog 46 = some none := by kernel_rfl
theorem co_56 : codeOf Tryz.prog 56 = true := by kernel_rfl
theorem fo_57_0 : fieldOff Tryz.prog 57 0 = some 0 := by kernel_rfl
theorem fo_50_4 : fieldOff Tryz.prog 50 4 = some 4 := by kernel_rfl
theorem sz_2 : sizeT Tryz.prog 2 = some 1 := by kernel_rfl
theorem fo_57_1 : fieldOff Tryz.prog 57 1 = some 1 := by kernel_rfl
theorem bu_98_1 : ∀ (a0 : Option Nat), buildV Tryz.prog 98 [(1, .map a0)] = some (.agg #[.slice none 0 0, .map a0]) := by intros; kernel_rfl
theorem co_57 : codeOf Tryz.prog 57 = true := by kernel_rfl
theorem co_58 : codeOf Tryz.prog 58 = true := by kernel_rfl
theorem co_59 : codeOf Tryz.prog 59 = true := by kernel_rfl
theorem fo_98_1 : fieldOff Tryz.prog 98 1 = some 1 := by kernel_rfl
theorem ld_95 : aggSize Tryz.prog 95 = some none := by kernel_rfl
theorem fo_98_0 : fieldOff Tryz.prog 98 0 = some 0 := by kernel_rfl
theorem ld_96 : aggSize Tryz.prog 96 = some none := by kernel_rfl
theorem el_96 : elemOf Tryz.prog 96 = some (none, 4) := by kernel_rfl
theorem fo_102_1 : fieldOff Tryz.prog 102 1 = some 2 := by kernel_rfl
theorem co_60 : codeOf Tryz.prog 60 = true := by kernel_rfl
theorem fo_92_2 : fieldOff Tryz.prog 92 2 = some 2 := by kernel_rfl
theorem co_61 : codeOf Tryz.prog 61 = true := by kernel_rfl
theorem co_62 : codeOf Tryz.prog 62 = true := by kernel_rfl
theorem co_63 : codeOf Tryz.prog 63 = true := by kernel_rfl
theorem co_64 : codeOf Tryz.prog 64 = true := by kernel_rfl
theorem sz_96 : sizeT Tryz.prog 96 = some 1 := by kernel_rfl
theorem ld_102 : aggSize Tryz.prog 102 = some (some 4) := by kernel_rfl
theorem ze_102 : zeroOf Tryz.prog 102 = some (.agg #[(.int .u8 0), (.int .i64 0), (.int .u8 0), (.int .i64 0)]) := by kernel_rfl
theorem sz_102 : sizeT Tryz.prog 102 = some 4 := by kernel_rfl
theorem fo_102_0 : fieldOff Tryz.prog 102 0 = some 0 := by kernel_rfl
theorem bu_102_0_1 : ∀ (a0 : Int) (a1 : Int) (a2 : Int) (a3 : Int), buildV Tryz.prog 102 [(0, .agg #[.int .u8 a0, .int .i64 a1]), (1, .agg #[.int .u8 a2, .int .i64 a3])] = some (.agg #[.int .u8 a0, .int .i64 a1, .int .u8 a2, .int .i64 a3]) := by intros; kernel_rfl
theorem ez_96 : elemZeroOk Tryz.prog 96 = true := by kernel_rfl
theorem co_65 : codeOf Tryz.prog 65 = true := by kernel_rfl
theorem fo_92_1 : fieldOff Tryz.prog 92 1 = some 1 := by kernel_rfl
theorem fo_92_4 : fieldOff Tryz.prog 92 4 = some 4 := by kernel_rfl
theorem ld_90 : aggSize Tryz.prog 90 = some none := by kernel_rfl
theorem el_90 : elemOf Tryz.prog 90 = some (none, 1) := by kernel_rfl
theorem sz_3 : sizeT Tryz.prog 3 = some 1 := by kernel_rfl
theorem fo_50_5 : fieldOff Tryz.prog 50 5 = some 5 := by kernel_rfl
theorem fo_50_6 : fieldOff Tryz.prog 50 6 = some 6 := by kernel_rfl
theorem ld_48 : aggSize Tryz.prog 48 = some none := by kernel_rfl
theorem co_66 : codeOf Tryz.prog 66 = true := by kernel_rfl
theorem co_33 : codeOf Tryz.prog 33 = true := by kernel_rfl
theorem fo_68_2 : fieldOff Tryz.prog 68 2 = some 2 := by kernel_rfl
theorem fo_68_0 : fieldOff Tryz.prog 68 0 = some 0 := by kernel_rfl
theorem co_34 : codeOf Tryz.prog 34 = true := by kernel_rfl
theorem ez_65 : elemZeroOk Tryz.prog 65 = true := by kernel_rfl
theorem co_67 : codeOf Tryz.prog 67 = true := by kernel_rfl
theorem bu_37_0_2_3 : ∀ (a0 : Int) (a1 : Bool) (a2 : ByteArray), buildV Tryz.prog 37 [(0, .int .u8 a0), (2, .bool a1), (3, .string a2)] = some (.agg #[.int .u8 a0, .slice none 0 0, .bool a1, .string a2]) := by intros; kernel_rfl
theorem co_68 : codeOf Tryz.prog 68 = true := by kernel_rfl
theorem co_69 : codeOf Tryz.prog 69 = true := by kernel_rfl
theorem co_70 : codeOf Tryz.prog 70 = true := by kernel_rfl
theorem bu_37_0_1 : ∀ (a0 : Int) (a1 : Option Addr) (b1 c1 : Nat), buildV Tryz.prog 37 [(0, .int .u8 a0), (1, .slice a1 b1 c1)] = some (.agg #[.int .u8 a0, .slice a1 b1 c1, .bool false, .string ⟨#[]⟩]) := by intros; kernel_rfl
theorem co_71 : codeOf Tryz.prog 71 = true := by kernel_rfl
theorem co_72 : codeOf Tryz.prog 72 = true := by kernel_rfl
theorem co_73 : codeOf Tryz.prog 73 = true := by kernel_rfl
theorem co_74 : codeOf Tryz.prog 74 = true := by kernel_rfl
theorem co_75 : codeOf Tryz.prog 75 = true := by kernel_rfl
theorem co_76 : codeOf Tryz.prog 76 = true := by kernel_rfl
theorem co_77 : codeOf Tryz.prog 77 = true := by kernel_rfl
theorem co_39 : codeOf Tryz.prog 39 = true := by kernel_rfl
theorem co_78 : codeOf Tryz.prog 78 = true := by kernel_rfl
theorem fo_57_4 : fieldOff Tryz.prog 57 4 = some 4 := by kernel_rfl
theorem co_42 : codeOf Tryz.prog 42 = true := by kernel_rfl
theorem co_43 : codeOf Tryz.prog 43 = true := by kernel_rfl
theorem co_45 : codeOf Tryz.prog 45 = true := by kernel_rfl
theorem co_47 : codeOf Tryz.prog 47 = true := by kernel_rfl
theorem bu_29_0 : ∀ (a0 : Int), buildV Tryz.prog 29 [(0, .int .u8 a0)] = some (.agg #[.int .u8 a0, .int .i64 0]) := by intros; kernel_rfl
theorem co_79 : codeOf Tryz.prog 79 = true := by kernel_rfl
theorem fo_57_2 : fieldOff Tryz.prog 57 2 = some 2 := by kernel_rfl
theorem co_80 : codeOf Tryz.prog 80 = true := by kernel_rfl
theorem co_81 : codeOf Tryz.prog 81 = true := by kernel_rfl
theorem co_82 : codeOf Tryz.prog 82 = true := by kernel_rfl
theorem co_83 : codeOf Tryz.prog 83 = true := by kernel_rfl
theorem co_84 : codeOf Tryz.prog 84 = true := by kernel_rfl
theorem co_85 : codeOf Tryz.prog 85 = true := by kernel_rfl
theorem co_86 : codeOf Tryz.prog 86 = true := by kernel_rfl
theorem co_87 : codeOf Tryz.prog 87 = true := by kernel_rfl
theorem co_88 : codeOf Tryz.prog 88 = true := by kernel_rfl
theorem bu_89_0_1_2 : ∀ (a0 : Option Addr) (a1 : Option Addr) (a2 : Option Addr) (b2 c2 : Nat), buildV Tryz.prog 89 [(0, .pointer a0), (1, .pointer a1), (2, .slice a2 b2 c2)] = some (.agg #[.pointer a0, .pointer a1, .slice a2 b2 c2]) := by intros; kernel_rfl
theorem co_89 : codeOf Tryz.prog 89 = true := by kernel_rfl
theorem sz_32 : sizeT Tryz.prog 32 = some 1 := by kernel_rfl
theorem co_90 : codeOf Tryz.prog 90 = true := by kernel_rfl
theorem el_86 : elemOf Tryz.prog 86 = some (none, 3) := by kernel_rfl
theorem el_85 : elemOf Tryz.prog 85 = some ((some 3), 1) := by kernel_rfl
theorem co_91 : codeOf Tryz.prog 91 = true := by kernel_rfl
theorem co_92 : codeOf Tryz.prog 92 = true := by kernel_rfl
theorem co_93 : codeOf Tryz.prog 93 = true := by kernel_rfl
theorem fo_92_3 : fieldOff Tryz.prog 92 3 = some 3 := by kernel_rfl
theorem fo_92_5 : fieldOff Tryz.prog 92 5 = some 5 := by kernel_rfl
theorem ez_90 : elemZeroOk Tryz.prog 90 = true := by kernel_rfl
theorem sz_90 : sizeT Tryz.prog 90 = some 1 := by kernel_rfl
theorem co_94 : codeOf Tryz.prog 94 = true := by kernel_rfl
theorem fo_92_0 : fieldOff Tryz.prog 92 0 = some 0 := by kernel_rfl
theorem co_95 : codeOf Tryz.prog 95 = true := by kernel_rfl
theorem co_96 : codeOf Tryz.prog 96 = true := by kernel_rfl
theorem ze_128 : zeroOf Tryz.prog 128 = some (.agg #[(.pointer none), (.slice none 0 0)]) := by kernel_rfl
theorem co_97 : codeOf Tryz.prog 97 = true := by kernel_rfl
theorem co_98 : codeOf Tryz.prog 98 = true := by kernel_rfl
theorem co_99 : codeOf Tryz.prog 99 = true := by kernel_rfl
theorem ze_134 : zeroOf Tryz.prog 134 = some (.agg #[(.string ⟨#[]⟩), (.string ⟨#[]⟩), (.string ⟨#[]⟩), (.string ⟨#[]⟩), (.string ⟨#[]⟩), (.string ⟨#[]⟩), (.string ⟨#[]⟩), (.string ⟨#[]⟩), (.string ⟨#[]⟩)]) := by kernel_rfl
theorem sz_134 : sizeT Tryz.prog 134 = some 9 := by kernel_rfl
theorem el_134 : elemOf Tryz.prog 134 = some ((some 9), 1) := by kernel_rfl
theorem co_100 : codeOf Tryz.prog 100 = true := by kernel_rfl
theorem sz_9 : sizeT Tryz.prog 9 = some 1 := by kernel_rfl
theorem co_102 : codeOf Tryz.prog 102 = true := by kernel_rfl
theorem co_103 : codeOf Tryz.prog 103 = true := by kernel_rfl
theorem co_104 : codeOf Tryz.prog 104 = true := by kernel_rfl
theorem fo_50_3 : fieldOff Tryz.prog 50 3 = some 3 := by kernel_rfl
theorem ld_47 : aggSize Tryz.prog 47 = some none := by kernel_rfl
theorem bu_57_0_2 : ∀ (a0 : Int) (a1 : ByteArray), buildV Tryz.prog 57 [(0, .int .u8 a0), (2, .string a1)] = some (.agg #[.int .u8 a0, .int .i64 0, .string a1, .pointer none, .int .u8 0, .int .i64 0, .int .i64 0, .slice none 0 0, .int .u8 0, .int .i64 0, .pointer none]) := by intros; kernel_rfl
theorem co_105 : codeOf Tryz.prog 105 = true := by kernel_rfl
theorem co_106 : codeOf Tryz.prog 106 = true := by kernel_rfl
theorem co_107 : codeOf Tryz.prog 107 = true := by kernel_rfl
theorem fd_29_1 : ∀ (a0 : Int) (a1 : Int), partAt Tryz.prog 29 1 (.agg #[.int .u8 a0, .int .i64 a1]) = some (.int .i64 a1) := by intros; kernel_rfl
theorem co_108 : codeOf Tryz.prog 108 = true := by kernel_rfl
theorem co_109 : codeOf Tryz.prog 109 = true := by kernel_rfl
theorem bu_147_0 : ∀ (a0 : Int), buildV Tryz.prog 147 [(0, .int .i64 a0)] = some (.agg #[.int .i64 a0, .slice none 0 0, .int .i64 0, .bool false]) := by intros; kernel_rfl
theorem bu_153_ : buildV Tryz.prog 153 [] = some (.agg #[.slice none 0 0]) := by kernel_rfl
theorem bu_155_3 : ∀ (a0 : Option Addr), buildV Tryz.prog 155 [(3, .pointer a0)] = some (.agg #[.int .u8 0, .int .i64 0, .int .i64 0, .string ⟨#[]⟩, .pointer a0, .int .u8 0, .int .i64 0, .int .i64 0, .slice none 0 0, .int .u8 0, .int .i64 0, .pointer none, .bool false]) := by intros; kernel_rfl
theorem co_110 : codeOf Tryz.prog 110 = true := by kernel_rfl
theorem fo_147_1 : fieldOff Tryz.prog 147 1 = some 1 := by kernel_rfl
theorem ld_145 : aggSize Tryz.prog 145 = some none := by kernel_rfl
theorem el_145 : elemOf Tryz.prog 145 = some (none, 1) := by kernel_rfl
theorem ld_149 : aggSize Tryz.prog 149 = some none := by kernel_rfl
theorem fo_155_0 : fieldOff Tryz.prog 155 0 = some 0 := by kernel_rfl
theorem fo_155_2 : fieldOff Tryz.prog 155 2 = some 3 := by kernel_rfl
theorem fo_147_3 : fieldOff Tryz.prog 147 3 = some 3 := by kernel_rfl
theorem fo_155_9 : fieldOff Tryz.prog 155 9 = some 12 := by kernel_rfl
theorem sz_4 : sizeT Tryz.prog 4 = some 1 := by kernel_rfl
theorem bu_155_2 : ∀ (a0 : ByteArray), buildV Tryz.prog 155 [(2, .string a0)] = some (.agg #[.int .u8 0, .int .i64 0, .int .i64 0, .string a0, .pointer none, .int .u8 0, .int .i64 0, .int .i64 0, .slice none 0 0, .int .u8 0, .int .i64 0, .pointer none, .bool false]) := by intros; kernel_rfl
theorem co_111 : codeOf Tryz.prog 111 = true := by kernel_rfl
theorem co_112 : codeOf Tryz.prog 112 = true := by kernel_rfl
theorem co_113 : codeOf Tryz.prog 113 = true := by kernel_rfl
theorem fo_155_3 : fieldOff Tryz.prog 155 3 = some 4 := by kernel_rfl
theorem ld_150 : aggSize Tryz.prog 150 = some none := by kernel_rfl
theorem co_114 : codeOf Tryz.prog 114 = true := by kernel_rfl
theorem co_115 : codeOf Tryz.prog 115 = true := by kernel_rfl
theorem fo_147_0 : fieldOff Tryz.prog 147 0 = some 0 := by kernel_rfl
theorem co_116 : codeOf Tryz.prog 116 = true := by kernel_rfl
theorem ze_3 : zeroOf Tryz.prog 3 = some (.int .i64 0) := by kernel_rfl
theorem co_117 : codeOf Tryz.prog 117 = true := by kernel_rfl
theorem co_118 : codeOf Tryz.prog 118 = true := by kernel_rfl
theorem co_119 : codeOf Tryz.prog 119 = true := by kernel_rfl
theorem fo_128_1 : fieldOff Tryz.prog 128 1 = some 1 := by kernel_rfl
theorem ld_126 : aggSize Tryz.prog 126 = some none := by kernel_rfl
theorem co_120 : codeOf Tryz.prog 120 = true := by kernel_rfl
theorem ez_126 : elemZeroOk Tryz.prog 126 = true := by kernel_rfl
theorem sz_126 : sizeT Tryz.prog 126 = some 1 := by kernel_rfl
theorem co_101 : codeOf Tryz.prog 101 = true := by kernel_rfl
theorem co_121 : codeOf Tryz.prog 121 = true := by kernel_rfl
theorem co_122 : codeOf Tryz.prog 122 = true := by kernel_rfl
theorem co_123 : codeOf Tryz.prog 123 = true := by kernel_rfl
theorem co_124 : codeOf Tryz.prog 124 = true := by kernel_rfl
theorem co_125 : codeOf Tryz.prog 125 = true := by kernel_rfl
theorem co_126 : codeOf Tryz.prog 126 = true := by kernel_rfl
theorem co_128 : codeOf Tryz.prog 128 = true := by kernel_rfl
theorem co_129 : codeOf Tryz.prog 129 = true := by kernel_rfl
theorem fo_147_2 : fieldOff Tryz.prog 147 2 = some 2 := by kernel_rfl
theorem fo_155_1 : fieldOff Tryz.prog 155 1 = some 2 := by kernel_rfl
theorem ez_145 : elemZeroOk Tryz.prog 145 = true := by kernel_rfl
theorem sz_145 : sizeT Tryz.prog 145 = some 1 := by kernel_rfl
theorem sz_149 : sizeT Tryz.prog 149 = some 1 := by kernel_rfl
theorem co_130 : codeOf Tryz.prog 130 = true := by kernel_rfl
theorem co_131 : codeOf Tryz.prog 131 = true := by kernel_rfl
theorem co_132 : codeOf Tryz.prog 132 = true := by kernel_rfl
theorem co_133 : codeOf Tryz.prog 133 = true := by kernel_rfl
theorem co_134 : codeOf Tryz.prog 134 = true := by kernel_rfl
theorem fo_153_0 : fieldOff Tryz.prog 153 0 = some 0 := by kernel_rfl
theorem ld_151 : aggSize Tryz.prog 151 = some none := by kernel_rfl
theorem el_151 : elemOf Tryz.prog 151 = some (none, 4) := by kernel_rfl
theorem fo_166_1 : fieldOff Tryz.prog 166 1 = some 2 := by kernel_rfl
theorem ld_166 : aggSize Tryz.prog 166 = some (some 4) := by kernel_rfl
theorem ez_151 : elemZeroOk Tryz.prog 151 = true := by kernel_rfl
theorem bu_166_0_1 : ∀ (a0 : Int) (a1 : Int) (a2 : Int) (a3 : Int), buildV Tryz.prog 166 [(0, .agg #[.int .u8 a0, .int .i64 a1]), (1, .agg #[.int .u8 a2, .int .i64 a3])] = some (.agg #[.int .u8 a0, .int .i64 a1, .int .u8 a2, .int .i64 a3]) := by intros; kernel_rfl
theorem sz_151 : sizeT Tryz.prog 151 = some 1 := by kernel_rfl
theorem fo_128_0 : fieldOff Tryz.prog 128 0 = some 0 := by kernel_rfl
theorem ld_125 : aggSize Tryz.prog 125 = some none := by kernel_rfl
theorem sz_125 : sizeT Tryz.prog 125 = some 1 := by kernel_rfl
theorem co_137 : codeOf Tryz.prog 137 = true := by kernel_rfl
theorem co_138 : codeOf Tryz.prog 138 = true := by kernel_rfl
theorem co_139 : codeOf Tryz.prog 139 = true := by kernel_rfl
theorem co_140 : codeOf Tryz.prog 140 = true := by kernel_rfl
theorem co_141 : codeOf Tryz.prog 141 = true := by kernel_rfl
theorem co_142 : codeOf Tryz.prog 142 = true := by kernel_rfl
theorem ze_177 : zeroOf Tryz.prog 177 = some (.agg #[(.int .u8 0), (.int .u8 0), (.int .u8 0), (.int .u8 0), (.int .u8 0), (.int .u8 0), (.int .u8 0), (.int .u8 0), (.int .u8 0), (.int .u8 0), (.int .u8 0), (.int .u8 0), (.int .u8 0), (.int .u8 0), (.int .u8 0), (.int .u8 0), (.int .u8 0), (.int .u8 0), (.int .u8 0), (.int .u8 0), (.int .u8 0), (.int .u8 0), (.int .u8 0), (.int .u8 0)]) := by kernel_rfl
theorem co_143 : codeOf Tryz.prog 143 = true := by kernel_rfl
theorem co_144 : codeOf Tryz.prog 144 = true := by kernel_rfl
theorem el_177 : elemOf Tryz.prog 177 = some ((some 24), 1) := by kernel_rfl
theorem sz_5 : sizeT Tryz.prog 5 = some 1 := by kernel_rfl
theorem co_145 : codeOf Tryz.prog 145 = true := by kernel_rfl
theorem co_146 : codeOf Tryz.prog 146 = true := by kernel_rfl
theorem co_147 : codeOf Tryz.prog 147 = true := by kernel_rfl
theorem fo_155_6 : fieldOff Tryz.prog 155 6 = some 8 := by kernel_rfl
theorem fo_166_0 : fieldOff Tryz.prog 166 0 = some 0 := by kernel_rfl
theorem co_148 : codeOf Tryz.prog 148 = true := by kernel_rfl
theorem el_126 : elemOf Tryz.prog 126 = some (none, 1) := by kernel_rfl
theorem ld_5 : aggSize Tryz.prog 5 = some none := by kernel_rfl
theorem co_149 : codeOf Tryz.prog 149 = true := by kernel_rfl
theorem co_150 : codeOf Tryz.prog 150 = true := by kernel_rfl
theorem ld_130 : aggSize Tryz.prog 130 = some none := by kernel_rfl
theorem co_152 : codeOf Tryz.prog 152 = true := by kernel_rfl
theorem co_151 : codeOf Tryz.prog 151 = true := by kernel_rfl
theorem co_154 : codeOf Tryz.prog 154 = true := by kernel_rfl
theorem co_153 : codeOf Tryz.prog 153 = true := by kernel_rfl
theorem el_190 : elemOf Tryz.prog 190 = some ((some 20), 1) := by kernel_rfl
theorem ld_136 : aggSize Tryz.prog 136 = some none := by kernel_rfl
theorem co_155 : codeOf Tryz.prog 155 = true := by kernel_rfl
theorem ze_192 : zeroOf Tryz.prog 192 = some (.agg #[(.int .u8 0), (.int .u8 0), (.int .u8 0), (.int .u8 0), (.int .u8 0), (.int .u8 0), (.int .u8 0), (.int .u8 0), (.int .u8 0), (.int .u8 0), (.int .u8 0), (.int .u8 0), (.int .u8 0), (.int .u8 0), (.int .u8 0), (.int .u8 0), (.int .u8 0), (.int .u8 0), (.int .u8 0), (.int .u8 0), (.int .u8 0), (.int .u8 0), (.int .u8 0), (.int .u8 0), (.int .u8 0), (.int .u8 0), (.int .u8 0), (.int .u8 0), (.int .u8 0), (.int .u8 0), (.int .u8 0), (.int .u8 0), (.int .u8 0), (.int .u8 0), (.int .u8 0), (.int .u8 0), (.int .u8 0), (.int .u8 0), (.int .u8 0), (.int .u8 0), (.int .u8 0), (.int .u8 0), (.int .u8 0), (.int .u8 0), (.int .u8 0), (.int .u8 0), (.int .u8 0), (.int .u8 0), (.int .u8 0), (.int .u8 0), (.int .u8 0), (.int .u8 0), (.int .u8 0), (.int .u8 0), (.int .u8 0), (.int .u8 0), (.int .u8 0), (.int .u8 0), (.int .u8 0), (.int .u8 0), (.int .u8 0), (.int .u8 0), (.int .u8 0), (.int .u8 0), (.int .u8 0)]) := by kernel_rfl
theorem co_156 : codeOf Tryz.prog 156 = true := by kernel_rfl
theorem co_157 : codeOf Tryz.prog 157 = true := by kernel_rfl
theorem el_192 : elemOf Tryz.prog 192 = some ((some 65), 1) := by kernel_rfl
theorem co_158 : codeOf Tryz.prog 158 = true := by kernel_rfl
theorem bu_197_0 : ∀ (a0 : ByteArray), buildV Tryz.prog 197 [(0, .string a0)] = some (.agg #[.string a0]) := by intros; kernel_rfl
theorem co_159 : codeOf Tryz.prog 159 = true := by kernel_rfl
theorem co_160 : codeOf Tryz.prog 160 = true := by kernel_rfl
theorem co_161 : codeOf Tryz.prog 161 = true := by kernel_rfl
theorem el_199 : elemOf Tryz.prog 199 = some ((some 32), 1) := by kernel_rfl
theorem el_200 : elemOf Tryz.prog 200 = some ((some 64), 1) := by kernel_rfl
theorem sz_199 : sizeT Tryz.prog 199 = some 32 := by kernel_rfl
theorem sz_200 : sizeT Tryz.prog 200 = some 64 := by kernel_rfl
theorem sz_190 : sizeT Tryz.prog 190 = some 20 := by kernel_rfl
theorem sz_130 : sizeT Tryz.prog 130 = some 1 := by kernel_rfl
def fs_3 := PLift.up (And.intro (And.intro (And.intro (And.intro (fun a c => calleeV_func _ a c co_4) (And.intro (fun a c => calleeV_func _ a c co_5) @ze_29)) (And.intro (fun i o H v => @aStore_at _ _ _ i o H v sz_29) (And.intro (fun H ty c => @lenV_slice _ H ty _ _ c Tryz.underlying22) (fun c r f H R d ty p af g x y => @st_indexAddr _ c r f H R d ty p af g _ x y _ el_22)))) (And.intro (And.intro (fun i o H => @aLoad_one _ _ i o H ld_4) (And.intro (fun i o H => @aLoad_agg _ _ _ i o H ld_29) (fun a c => calleeV_func _ a c co_7))) (And.intro (And.intro (fun a c => calleeV_func _ a c co_6) (fun c r f H R d ty p af g x y u => @st_append _ c r f H R d ty p af g x y _ u ez_32)) (And.intro (fun a c => calleeV_func _ a c co_9) (fun a c => calleeV_func _ a c co_8))))) (And.intro (And.intro (And.intro @ze_37 (And.intro (fun i o H v => @aStore_at _ _ _ i o H v sz_37) @fo_37_0)) (And.intro (And.intro (fun i o H => @aLoad_one _ _ i o H ld_35) @fo_37_1) (And.intro (fun i o H => @aLoad_one _ _ i o H ld_32) (fun H ty c => @lenV_slice _ H ty _ _ c Tryz.underlying32)))) (And.intro (And.intro (fun c r f H R d ty p af g x y => @st_indexAddr _ c r f H R d ty p af g _ x y _ el_32) (And.intro @fo_29_0 (fun i o H => @aLoad_one _ _ i o H ld_27))) (And.intro (And.intro @fo_29_1 (fun i o H => @aLoad_one _ _ i o H ld_2)) (And.intro (fun a c => calleeV_func _ a c co_10) (fun a c => calleeV_func _ a c co_11))))))
def fs_4 := PLift.up (And.intro (fun a c => calleeV_func _ a c co_12) @bu_50_0_1_2_3_6)
def fs_5 := PLift.up (And.intro (And.intro (And.intro (fun i o H => @aLoad_agg _ _ _ i o H ld_29) @ze_29) (And.intro (fun a c => calleeV_func _ a c co_13) @bu_29_)) (And.intro (And.intro (fun i o H v => @aStore_at _ _ _ i o H v sz_29) (fun a c => calleeV_func _ a c co_15)) (And.intro @bu_57_0_3 (fun a c => calleeV_func _ a c co_14))))
def fs_6 := PLift.up (And.intro (And.intro (And.intro (And.intro (fun a c => calleeV_func _ a c co_13) (fun i o H => @aLoad_agg _ _ _ i o H ld_29)) (And.intro (fun a c => calleeV_func _ a c co_16) (And.intro (fun cx => @b_eql_ptr _ _ _ cx Tryz.underlying52) @fo_29_0))) (And.intro (And.intro (fun i o H => @aLoad_one _ _ i o H ld_27) (And.intro (fun a c => calleeV_func _ a c co_17) @fo_57_3)) (And.intro (fun i o H => @aLoad_one _ _ i o H ld_53) (And.intro (fun a c => calleeV_func _ a c co_18) @fd_29_0)))) (And.intro (And.intro (And.intro @fo_50_1 (fun i o H => @aLoad_one _ _ i o H ld_43)) (And.intro (fun a c => calleeV_func _ a c co_19) (And.intro @fo_50_0 (fun i o H => @aLoad_one _ _ i o H ld_3)))) (And.intro (And.intro (fun a c => calleeV_func _ a c co_20) (And.intro @fo_29_1 (fun i o H => @aLoad_one _ _ i o H ld_2))) (And.intro (fun a c => calleeV_func _ a c co_22) (And.intro (fun a c => calleeV_func _ a c co_21) (fun a c => calleeV_func _ a c co_23))))))
def fs_7 := PLift.up (And.intro (And.intro (fun i o H => @aLoad_agg _ _ _ i o H ld_29) @ze_29) (And.intro @bu_29_0_1 (fun i o H v => @aStore_at _ _ _ i o H v sz_29)))
def fs_8 := PLift.up (And.intro (And.intro (And.intro (And.intro (And.intro (fun i o H => @aLoad_agg _ _ _ i o H ld_37) @ze_37) (And.intro (fun a c => calleeV_func _ a c co_24) (And.intro (fun H ty c => @lenV_slice _ H ty _ _ c Tryz.underlying65) (fun i o H => @aLoad_one _ _ i o H ld_23)))) (And.intro (And.intro @bu_68_0_1_2 (fun a c => calleeV_func _ a c co_25)) (And.intro (fun i o H v => @aStore_at _ _ _ i o H v sz_37) (And.intro (fun c r f H R d ty p af g x y => @st_indexAddr _ c r f H R d ty p af g _ x y _ el_65) (fun i o H => @aLoad_one _ _ i o H ld_9))))) (And.intro (And.intro (And.intro @ze_68 (fun i o H v => @aStore_at _ _ _ i o H v sz_68)) (And.intro (fun i o H => @aLoad_agg _ _ _ i o H ld_68) (And.intro (fun a c => calleeV_func _ a c co_26) (fun a c => calleeV_func _ a c co_27)))) (And.intro (And.intro (fun a c => calleeV_func _ a c co_28) (fun a c => calleeV_func _ a c co_29)) (And.intro (fun a c => calleeV_func _ a c co_30) (And.intro (fun a c => calleeV_func _ a c co_31) (fun a c => calleeV_func _ a c co_32)))))) (And.intro (And.intro (And.intro (And.intro (fun a c => calleeV_func _ a c co_36) (fun a c => calleeV_func _ a c co_37)) (And.intro (fun a c => calleeV_func _ a c co_40) (And.intro (fun a c => calleeV_func _ a c co_41) (fun a c => calleeV_func _ a c co_44)))) (And.intro (And.intro (fun a c => calleeV_func _ a c co_46) @fo_68_1) (And.intro (fun a c => calleeV_func _ a c co_48) (And.intro @bu_37_0 (fun H ty c => @lenV_slice _ H ty _ _ c Tryz.underlying32))))) (And.intro (And.intro (And.intro @bu_29_0_1 (fun a c => calleeV_func _ a c co_35)) (And.intro (fun a c => calleeV_func _ a c co_49) (And.intro (fun a c => calleeV_func _ a c co_38) @fd_29_0))) (And.intro (And.intro (fun a c => calleeV_func _ a c co_50) (fun a c => calleeV_func _ a c co_51)) (And.intro (fun H ty c => @lenV_string _ H ty _ c Tryz.underlying9) (And.intro (fun a c => calleeV_func _ a c co_52) (fun a c => calleeV_func _ a c co_53)))))))
def fs_10 := PLift.up (And.intro (fun H ty c => @lenV_slice _ H ty _ _ c Tryz.underlying32) (And.intro (fun c r f H R d ty p af g x y => @st_indexAddr _ c r f H R d ty p af g _ x y _ el_32) (fun i o H => @aLoad_agg _ _ _ i o H ld_29)))
def fs_12 := PLift.up @bu_92_0_1
def fs_13 := PLift.up (And.intro (And.intro (fun cx => @b_neq_ptr _ _ _ cx Tryz.underlying23) @fo_50_2) (And.intro (fun i o H => @aLoad_one _ _ i o H ld_46) (fun cx => @b_neq_map _ _ _ _ cx Tryz.underlying46)))
def fs_14 := PLift.up (And.intro (And.intro (And.intro (And.intro (fun i o H => @aLoad_agg _ _ _ i o H ld_29) @ze_29) (And.intro @fo_50_1 (And.intro (fun i o H => @aLoad_one _ _ i o H ld_43) (fun a c => calleeV_func _ a c co_19)))) (And.intro (And.intro @fo_50_0 (fun i o H => @aLoad_one _ _ i o H ld_3)) (And.intro @bu_29_ (And.intro (fun i o H v => @aStore_at _ _ _ i o H v sz_29) (fun a c => calleeV_func _ a c co_56))))) (And.intro (And.intro (And.intro @fo_57_0 (fun i o H => @aLoad_one _ _ i o H ld_27)) (And.intro @fo_50_4 (And.intro (fun i o H => @aLoad_one _ _ i o H ld_2) (fun i o H v => @aStore_at _ _ _ i o H v sz_2)))) (And.intro (And.intro @fo_57_1 @fo_50_2) (And.intro (fun i o H => @aLoad_one _ _ i o H ld_46) (And.intro (fun a c => calleeV_func _ a c co_23) @bu_29_0_1)))))
def fs_16 := PLift.up (And.intro (And.intro @fo_29_0 (fun i o H => @aLoad_one _ _ i o H ld_27)) (And.intro (fun i o H => @aLoad_agg _ _ _ i o H ld_29) (fun a c => calleeV_func _ a c co_57)))
def fs_17 := PLift.up (And.intro (And.intro (And.intro @fo_29_0 (fun i o H => @aLoad_one _ _ i o H ld_27)) (And.intro @fo_29_1 (fun i o H => @aLoad_one _ _ i o H ld_2))) (And.intro (And.intro (fun i o H => @aLoad_agg _ _ _ i o H ld_29) (fun a c => calleeV_func _ a c co_58)) (And.intro (fun a c => calleeV_func _ a c co_57) (fun cx => @b_neq_ptr _ _ _ cx Tryz.underlying52))))
def fs_19 := PLift.up (And.intro (fun a c => calleeV_func _ a c co_60) (And.intro @fo_92_2 (fun i o H => @aLoad_one _ _ i o H ld_3)))
def fs_20 := PLift.up (And.intro (And.intro (And.intro (And.intro (fun a c => calleeV_func _ a c co_59) (And.intro @fo_29_0 (fun i o H => @aLoad_one _ _ i o H ld_27))) (And.intro (fun i o H => @aLoad_agg _ _ _ i o H ld_29) (And.intro (fun a c => calleeV_func _ a c co_61) @fo_98_1))) (And.intro (And.intro (fun i o H => @aLoad_one _ _ i o H ld_95) (And.intro @fo_98_0 (fun i o H => @aLoad_one _ _ i o H ld_96))) (And.intro (fun c r f H R d ty p af g x y => @st_indexAddr _ c r f H R d ty p af g _ x y _ el_96) (And.intro @fo_102_1 (fun i o H v => @aStore_at _ _ _ i o H v sz_29))))) (And.intro (And.intro (And.intro (fun a c => calleeV_func _ a c co_22) (And.intro (fun a c => calleeV_func _ a c co_62) (fun a c => calleeV_func _ a c co_63))) (And.intro (fun a c => calleeV_func _ a c co_64) (And.intro (fun i o H v => @aStore_at _ _ _ i o H v sz_96) (fun H ty c => @lenV_slice _ H ty _ _ c Tryz.underlying96)))) (And.intro (And.intro (fun i o H => @aLoad_agg _ _ _ i o H ld_102) (And.intro @ze_102 (fun i o H v => @aStore_at _ _ _ i o H v sz_102))) (And.intro @fo_102_0 (And.intro @bu_102_0_1 (fun c r f H R d ty p af g x y u => @st_append _ c r f H R d ty p af g x y _ u ez_96))))))
def fs_21 := PLift.up (And.intro (And.intro (And.intro (fun a c => calleeV_func _ a c co_60) (fun a c => calleeV_func _ a c co_65)) (And.intro @fo_92_1 (fun i o H => @aLoad_one _ _ i o H ld_3))) (And.intro (And.intro @fo_92_2 @fo_92_4) (And.intro (fun i o H => @aLoad_one _ _ i o H ld_90) (And.intro (fun c r f H R d ty p af g x y => @st_indexAddr _ c r f H R d ty p af g _ x y _ el_90) (fun i o H v => @aStore_at _ _ _ i o H v sz_3)))))
def fs_23 := PLift.up (And.intro (And.intro @fo_50_5 (fun i o H => @aLoad_one _ _ i o H ld_4)) (And.intro @fo_50_6 (fun i o H => @aLoad_one _ _ i o H ld_48)))
def fs_35 := PLift.up (And.intro (And.intro (And.intro (fun i o H => @aLoad_agg _ _ _ i o H ld_29) @ze_29) (And.intro @fo_68_2 (fun i o H => @aLoad_one _ _ i o H ld_32))) (And.intro (And.intro (fun H ty c => @lenV_slice _ H ty _ _ c Tryz.underlying32) (fun c r f H R d ty p af g x y => @st_indexAddr _ c r f H R d ty p af g _ x y _ el_32)) (And.intro (fun i o H v => @aStore_at _ _ _ i o H v sz_29) @bu_29_)))
def fs_38 := PLift.up (And.intro (And.intro (fun i o H => @aLoad_agg _ _ _ i o H ld_37) @ze_37) (And.intro (fun a c => calleeV_func _ a c co_78) (And.intro @bu_37_0_1 (fun i o H v => @aStore_at _ _ _ i o H v sz_37))))
def fs_39 := PLift.up (And.intro (And.intro (fun i o H => @aLoad_agg _ _ _ i o H ld_29) (And.intro @ze_29 (fun a c => calleeV_func _ a c co_16))) (And.intro (And.intro (fun cx => @b_neq_ptr _ _ _ cx Tryz.underlying52) @fo_57_4) (And.intro (fun i o H v => @aStore_at _ _ _ i o H v sz_29) @bu_29_)))
def fs_48 := PLift.up (fun a c => calleeV_func _ a c co_79)
def fs_49 := PLift.up (And.intro (And.intro (fun i o H => @aLoad_agg _ _ _ i o H ld_29) @ze_29) (And.intro @bu_29_0_1 (fun i o H v => @aStore_at _ _ _ i o H v sz_29)))
def fs_50 := PLift.up (And.intro (fun i o H => @aLoad_agg _ _ _ i o H ld_29) (And.intro (fun a c => calleeV_func _ a c co_57) (fun cx => @b_neq_ptr _ _ _ cx Tryz.underlying52)))
def fs_51 := PLift.up (And.intro (And.intro (fun i o H => @aLoad_agg _ _ _ i o H ld_29) (fun a c => calleeV_func _ a c co_16)) (And.intro (fun cx => @b_neq_ptr _ _ _ cx Tryz.underlying52) (And.intro @fo_57_2 (fun i o H => @aLoad_one _ _ i o H ld_9))))
def fs_52 := PLift.up (And.intro (And.intro (fun i o H => @aLoad_agg _ _ _ i o H ld_68) (And.intro (fun a c => calleeV_func _ a c co_35) @fd_29_0)) (And.intro @fo_68_0 (And.intro (fun i o H => @aLoad_one _ _ i o H ld_23) (fun a c => calleeV_func _ a c co_50))))
def fs_53 := PLift.up (And.intro (And.intro (And.intro (And.intro (And.intro (fun i o H => @aLoad_agg _ _ _ i o H ld_37) @ze_37) (And.intro @fo_68_0 (fun i o H => @aLoad_one _ _ i o H ld_23))) (And.intro (And.intro (fun i o H => @aLoad_agg _ _ _ i o H ld_68) (fun a c => calleeV_func _ a c co_35)) (And.intro @ze_29 (fun i o H v => @aStore_at _ _ _ i o H v sz_29)))) (And.intro (And.intro (And.intro @fo_68_1 (fun i o H => @aLoad_one _ _ i o H ld_9)) (And.intro (fun i o H => @aLoad_agg _ _ _ i o H ld_29) (fun a c => calleeV_func _ a c co_80))) (And.intro (And.intro (fun a c => calleeV_func _ a c co_38) (fun i o H v => @aStore_at _ _ _ i o H v sz_37)) (And.intro (fun a c => calleeV_func _ a c co_6) (And.intro (fun a c => calleeV_func _ a c co_74) (fun a c => calleeV_func _ a c co_25)))))) (And.intro (And.intro (And.intro (And.intro (fun a c => calleeV_func _ a c co_81) (fun a c => calleeV_func _ a c co_49)) (And.intro @fo_68_2 (fun i o H => @aLoad_one _ _ i o H ld_32))) (And.intro (And.intro (fun H ty c => @lenV_slice _ H ty _ _ c Tryz.underlying32) @fo_29_0) (And.intro (fun i o H => @aLoad_one _ _ i o H ld_27) (And.intro (fun a c => calleeV_func _ a c co_52) (fun a c => calleeV_func _ a c co_82))))) (And.intro (And.intro (And.intro (fun a c => calleeV_func _ a c co_83) @bu_29_0_1) (And.intro @bu_29_ @fo_29_1)) (And.intro (And.intro (fun i o H => @aLoad_one _ _ i o H ld_2) (fun a c => calleeV_func _ a c co_84)) (And.intro (fun a c => calleeV_func _ a c co_85) (And.intro (fun a c => calleeV_func _ a c co_86) (fun a c => calleeV_func _ a c co_87)))))))
def fs_54 := PLift.up (And.intro (fun H ty c => @lenV_slice _ H ty _ _ c Tryz.underlying65) (And.intro (fun c r f H R d ty p af g x y => @st_indexAddr _ c r f H R d ty p af g _ x y _ el_65) (fun i o H => @aLoad_one _ _ i o H ld_9)))
def fs_56 := PLift.up (And.intro (And.intro (And.intro (fun a c => calleeV_func _ a c co_60) (And.intro @fo_92_1 (fun i o H => @aLoad_one _ _ i o H ld_3))) (And.intro (And.intro @fo_92_2 @fo_92_3) (And.intro (fun i o H v => @aStore_at _ _ _ i o H v sz_3) @fo_92_5))) (And.intro (And.intro (fun i o H => @aLoad_one _ _ i o H ld_90) (And.intro (fun H ty c => @lenV_slice _ H ty _ _ c Tryz.underlying90) @fo_92_4)) (And.intro (And.intro (fun c r f H R d ty p af g x y u => @st_append _ c r f H R d ty p af g x y _ u ez_90) (fun i o H v => @aStore_at _ _ _ i o H v sz_90)) (And.intro (fun a c => calleeV_func _ a c co_94) (fun c r f H R d ty p af g x y => @st_indexAddr _ c r f H R d ty p af g _ x y _ el_90)))))
def fs_57 := PLift.up (And.intro (And.intro (And.intro (fun a c => calleeV_func _ a c co_13) (fun i o H => @aLoad_agg _ _ _ i o H ld_29)) (And.intro (fun a c => calleeV_func _ a c co_58) (And.intro @fo_50_2 (fun i o H => @aLoad_one _ _ i o H ld_46)))) (And.intro (And.intro @fo_29_1 (And.intro (fun i o H => @aLoad_one _ _ i o H ld_2) (fun cx => @b_neq_ptr _ _ _ cx Tryz.underlying52))) (And.intro @fo_57_0 (And.intro (fun i o H => @aLoad_one _ _ i o H ld_27) @fo_29_0))))
def fs_58 := PLift.up (And.intro @fo_29_0 (fun i o H => @aLoad_one _ _ i o H ld_27))
def fs_60 := PLift.up (And.intro (fun cx => @b_eql_ptr _ _ _ cx Tryz.underlying43) (And.intro @fo_92_0 (fun i o H => @aLoad_one _ _ i o H ld_4)))
def fs_65 := PLift.up (And.intro (And.intro @fo_92_4 (fun i o H => @aLoad_one _ _ i o H ld_90)) (And.intro (fun H ty c => @lenV_slice _ H ty _ _ c Tryz.underlying90) (And.intro (fun c r f H R d ty p af g x y => @st_indexAddr _ c r f H R d ty p af g _ x y _ el_90) (fun i o H => @aLoad_one _ _ i o H ld_3))))
def fs_71 := PLift.up (And.intro (And.intro (And.intro (fun i o H => @aLoad_agg _ _ _ i o H ld_29) @ze_29) (And.intro (fun a c => calleeV_func _ a c co_13) @bu_29_)) (And.intro (And.intro (fun i o H v => @aStore_at _ _ _ i o H v sz_29) @fo_50_3) (And.intro (fun i o H => @aLoad_one _ _ i o H ld_47) @bu_29_0_1)))
def fs_72 := PLift.up (And.intro (And.intro (fun a c => calleeV_func _ a c co_13) @fo_50_1) (And.intro (fun i o H => @aLoad_one _ _ i o H ld_43) (fun a c => calleeV_func _ a c co_19)))
def fs_73 := PLift.up (And.intro (fun a c => calleeV_func _ a c co_13) (And.intro @fo_50_0 (fun i o H => @aLoad_one _ _ i o H ld_3)))
def fs_75 := PLift.up (And.intro (And.intro (And.intro (fun i o H => @aLoad_agg _ _ _ i o H ld_29) (And.intro @ze_29 (fun a c => calleeV_func _ a c co_13))) (And.intro (And.intro @bu_29_ (fun i o H v => @aStore_at _ _ _ i o H v sz_29)) (And.intro (fun H ty c => @lenV_string _ H ty _ c Tryz.underlying9) @fo_50_3))) (And.intro (And.intro (fun i o H => @aLoad_one _ _ i o H ld_47) (And.intro (fun a c => calleeV_func _ a c co_23) @bu_29_0_1)) (And.intro (And.intro @bu_57_0_2 (fun a c => calleeV_func _ a c co_14)) (And.intro @fo_29_1 (fun i o H => @aLoad_one _ _ i o H ld_2)))))
def fs_77 := PLift.up (And.intro (And.intro (fun i o H => @aLoad_agg _ _ _ i o H ld_29) (fun a c => calleeV_func _ a c co_57)) (And.intro (fun cx => @b_neq_ptr _ _ _ cx Tryz.underlying52) (And.intro @fo_57_1 (fun i o H => @aLoad_one _ _ i o H ld_2))))
def fs_78 := PLift.up (And.intro (fun cx => @b_eql_sl _ _ _ cx Tryz.underlying32) (fun c r f H R d ty p af g x y u => @st_append _ c r f H R d ty p af g x y _ u ez_32))
def fs_79 := PLift.up (fun H ty c => @lenV_string _ H ty _ c Tryz.underlying9)
def fs_80 := PLift.up (And.intro (And.intro (And.intro (fun i o H => @aLoad_agg _ _ _ i o H ld_29) @ze_29) (And.intro (fun a c => calleeV_func _ a c co_16) (fun cx => @b_neq_ptr _ _ _ cx Tryz.underlying52))) (And.intro (And.intro @fo_57_3 (fun i o H => @aLoad_one _ _ i o H ld_53)) (And.intro (fun a c => calleeV_func _ a c co_18) (And.intro (fun i o H v => @aStore_at _ _ _ i o H v sz_29) @bu_29_))))
def fs_81 := PLift.up (And.intro (And.intro (fun i o H => @aLoad_agg _ _ _ i o H ld_29) (And.intro (fun a c => calleeV_func _ a c co_16) (fun cx => @b_neq_ptr _ _ _ cx Tryz.underlying52))) (And.intro @fo_57_3 (And.intro (fun i o H => @aLoad_one _ _ i o H ld_53) (fun a c => calleeV_func _ a c co_106))))
def fs_82 := PLift.up (And.intro (And.intro (And.intro (fun a c => calleeV_func _ a c co_13) (fun i o H => @aLoad_agg _ _ _ i o H ld_29)) (And.intro (fun a c => calleeV_func _ a c co_16) (And.intro (fun cx => @b_eql_ptr _ _ _ cx Tryz.underlying52) @bu_29_))) (And.intro (And.intro @fo_57_4 (fun i o H v => @aStore_at _ _ _ i o H v sz_29)) (And.intro @fo_29_1 (And.intro (fun i o H => @aLoad_one _ _ i o H ld_2) (fun a c => calleeV_func _ a c co_23)))))
def fs_83 := PLift.up (And.intro (And.intro (And.intro (fun i o H => @aLoad_agg _ _ _ i o H ld_29) @ze_29) (And.intro (fun a c => calleeV_func _ a c co_13) (And.intro @bu_29_ (fun i o H v => @aStore_at _ _ _ i o H v sz_29)))) (And.intro (And.intro (fun a c => calleeV_func _ a c co_16) (fun cx => @b_neq_ptr _ _ _ cx Tryz.underlying52)) (And.intro @fo_57_3 (And.intro (fun i o H => @aLoad_one _ _ i o H ld_53) (fun a c => calleeV_func _ a c co_107)))))
def fs_88 := PLift.up @bu_147_0
def fs_94 := PLift.up (And.intro (And.intro (And.intro (fun i o H => @aLoad_one _ _ i o H ld_43) @fo_92_5) (And.intro (fun i o H => @aLoad_one _ _ i o H ld_90) (And.intro (fun c r f H R d ty p af g x y => @st_indexAddr _ c r f H R d ty p af g _ x y _ el_90) (fun i o H => @aLoad_one _ _ i o H ld_3)))) (And.intro (And.intro (fun H ty c => @lenV_slice _ H ty _ _ c Tryz.underlying90) @ze_3) (And.intro (fun i o H v => @aStore_at _ _ _ i o H v sz_3) (And.intro (fun i o H v => @aStore_at _ _ _ i o H v sz_90) (fun a c => calleeV_func _ a c co_117)))))
def fs_110 := PLift.up (And.intro (And.intro (And.intro (And.intro (fun i o H => @aLoad_agg _ _ _ i o H ld_29) (And.intro @ze_29 @bu_29_0_1)) (And.intro @fo_155_0 (And.intro (fun i o H v => @aStore_at _ _ _ i o H v sz_29) @fo_147_1))) (And.intro (And.intro (fun i o H => @aLoad_one _ _ i o H ld_145) (And.intro (fun H ty c => @lenV_slice _ H ty _ _ c Tryz.underlying145) (fun a c => calleeV_func _ a c co_115))) (And.intro (And.intro (fun a c => calleeV_func _ a c co_129) @fo_147_0) (And.intro (fun i o H => @aLoad_one _ _ i o H ld_3) @bu_29_)))) (And.intro (And.intro (And.intro (fun c r f H R d ty p af g x y => @st_indexAddr _ c r f H R d ty p af g _ x y _ el_145) (And.intro (fun i o H => @aLoad_one _ _ i o H ld_149) @fo_29_1)) (And.intro (And.intro (fun i o H => @aLoad_one _ _ i o H ld_2) (fun i o H v => @aStore_at _ _ _ i o H v sz_2)) (And.intro @fo_147_3 (fun i o H => @aLoad_one _ _ i o H ld_4)))) (And.intro (And.intro @fo_155_9 (And.intro (fun i o H v => @aStore_at _ _ _ i o H v sz_4) @fo_147_2)) (And.intro (And.intro @fo_155_1 (fun c r f H R d ty p af g x y u => @st_append _ c r f H R d ty p af g x y _ u ez_145)) (And.intro (fun i o H v => @aStore_at _ _ _ i o H v sz_145) (fun i o H v => @aStore_at _ _ _ i o H v sz_149))))))
def fs_113 := PLift.up (And.intro (And.intro (fun i o H => @aLoad_agg _ _ _ i o H ld_29) (fun a c => calleeV_func _ a c co_132)) (And.intro (fun a c => calleeV_func _ a c co_133) (And.intro (fun a c => calleeV_func _ a c co_130) (fun cx => @b_neq_ptr _ _ _ cx Tryz.underlying149))))
def fs_115 := PLift.up (And.intro (And.intro @fo_147_1 (And.intro (fun i o H => @aLoad_one _ _ i o H ld_145) (fun H ty c => @lenV_slice _ H ty _ _ c Tryz.underlying145))) (And.intro (fun c r f H R d ty p af g x y => @st_indexAddr _ c r f H R d ty p af g _ x y _ el_145) (And.intro (fun i o H => @aLoad_one _ _ i o H ld_149) (fun a c => calleeV_func _ a c co_129))))
def fs_117 := PLift.up (And.intro (And.intro (fun i o H => @aLoad_one _ _ i o H ld_3) (fun i o H => @aLoad_one _ _ i o H ld_43)) (And.intro @fo_92_5 (And.intro (fun i o H => @aLoad_one _ _ i o H ld_90) (fun c r f H R d ty p af g x y => @st_indexAddr _ c r f H R d ty p af g _ x y _ el_90))))
def fs_129 := PLift.up (And.intro (And.intro (And.intro @fo_155_0 (And.intro @fo_29_0 (fun i o H => @aLoad_one _ _ i o H ld_27))) (And.intro @fo_155_2 (And.intro (fun i o H => @aLoad_one _ _ i o H ld_9) (fun H ty c => @lenV_string _ H ty _ c Tryz.underlying9)))) (And.intro (And.intro @fo_155_3 (And.intro (fun i o H => @aLoad_one _ _ i o H ld_150) (fun a c => calleeV_func _ a c co_147))) (And.intro @fo_155_6 (And.intro (fun i o H => @aLoad_one _ _ i o H ld_32) (fun H ty c => @lenV_slice _ H ty _ _ c Tryz.underlying32)))))
def fs_130 := PLift.up (And.intro (And.intro @fo_147_1 (And.intro (fun i o H => @aLoad_one _ _ i o H ld_145) (fun H ty c => @lenV_slice _ H ty _ _ c Tryz.underlying145))) (And.intro (And.intro (fun c r f H R d ty p af g x y => @st_indexAddr _ c r f H R d ty p af g _ x y _ el_145) (fun i o H => @aLoad_one _ _ i o H ld_149)) (And.intro @fo_155_0 (fun i o H => @aLoad_agg _ _ _ i o H ld_29))))
def fs_131 := PLift.up (And.intro (And.intro @fo_29_0 (fun i o H => @aLoad_one _ _ i o H ld_27)) (And.intro @fo_29_1 (fun i o H => @aLoad_one _ _ i o H ld_2)))
def fs_132 := PLift.up (And.intro (And.intro @fo_29_0 (fun i o H => @aLoad_one _ _ i o H ld_27)) (And.intro (fun i o H => @aLoad_agg _ _ _ i o H ld_29) (fun a c => calleeV_func _ a c co_131)))
def fs_133 := PLift.up (And.intro @fo_29_0 (fun i o H => @aLoad_one _ _ i o H ld_27))
end Go.Proofs.YtdfadipfhcikdaaGreatDoor
