/- Facts on the types of the program's functions, each reckoned by the kernel. Written by a program. -/
import Derived.Test.YteomehedmfemiaaProg
import Derived.Test.YteomehedmfemiaaAmGo
import Derived.KernelRfl
namespace Go.Proofs.Yteomehedmfemiaa
open Go.RowKit
theorem ld_24 : aggSize Try.prog 24 = some (some 5) := by kernel_rfl
theorem co_4 : codeOf Try.prog 4 = true := by kernel_rfl
theorem ze_33 : zeroOf Try.prog 33 = some (.agg #[(.slice none 0 0), (.slice none 0 0)]) := by kernel_rfl
theorem sz_33 : sizeT Try.prog 33 = some 2 := by kernel_rfl
theorem ld_29 : aggSize Try.prog 29 = some (some 12) := by kernel_rfl
theorem co_5 : codeOf Try.prog 5 = true := by kernel_rfl
theorem ze_29 : zeroOf Try.prog 29 = some (.agg #[(.int .u8 0), (.int .i64 0), (.int .i64 0), (.int .i64 0), (.slice none 0 0), (.slice none 0 0), (.slice none 0 0), (.slice none 0 0), (.int .i64 0), (.slice none 0 0), (.bool false), (.int .i64 0)]) := by kernel_rfl
theorem sz_29 : sizeT Try.prog 29 = some 12 := by kernel_rfl
theorem ld_33 : aggSize Try.prog 33 = some (some 2) := by kernel_rfl
theorem co_6 : codeOf Try.prog 6 = true := by kernel_rfl
theorem co_7 : codeOf Try.prog 7 = true := by kernel_rfl
theorem ze_41 : zeroOf Try.prog 41 = some (.agg #[(.int .u8 0), (.int .i64 0)]) := by kernel_rfl
theorem sz_41 : sizeT Try.prog 41 = some 2 := by kernel_rfl
theorem co_8 : codeOf Try.prog 8 = true := by kernel_rfl
theorem co_9 : codeOf Try.prog 9 = true := by kernel_rfl
theorem co_11 : codeOf Try.prog 11 = true := by kernel_rfl
theorem co_10 : codeOf Try.prog 10 = true := by kernel_rfl
theorem co_12 : codeOf Try.prog 12 = true := by kernel_rfl
theorem co_13 : codeOf Try.prog 13 = true := by kernel_rfl
theorem bu_41_ : buildV Try.prog 41 [] = some (.agg #[.int .u8 0, .int .i64 0]) := by kernel_rfl
theorem fo_29_5 : fieldOff Try.prog 29 5 = some 5 := by kernel_rfl
theorem ld_26 : aggSize Try.prog 26 = some none := by kernel_rfl
theorem co_15 : codeOf Try.prog 15 = true := by kernel_rfl
theorem co_16 : codeOf Try.prog 16 = true := by kernel_rfl
theorem co_14 : codeOf Try.prog 14 = true := by kernel_rfl
theorem co_17 : codeOf Try.prog 17 = true := by kernel_rfl
theorem co_18 : codeOf Try.prog 18 = true := by kernel_rfl
theorem fo_24_1 : fieldOff Try.prog 24 1 = some 1 := by kernel_rfl
theorem ld_3 : aggSize Try.prog 3 = some none := by kernel_rfl
theorem co_19 : codeOf Try.prog 19 = true := by kernel_rfl
theorem fo_24_0 : fieldOff Try.prog 24 0 = some 0 := by kernel_rfl
theorem fo_24_3 : fieldOff Try.prog 24 3 = some 3 := by kernel_rfl
theorem ld_4 : aggSize Try.prog 4 = some none := by kernel_rfl
theorem bu_59_0_4 : ∀ (a0 : Int) (a1 : Int), buildV Try.prog 59 [(0, .int .u8 a0), (4, .int .i64 a1)] = some (.agg #[.int .u8 a0, .slice none 0 0, .slice none 0 0, .slice none 0 0, .int .i64 a1, .int .i64 0, .int .i64 0]) := by intros; kernel_rfl
theorem bu_65_0_2_1_7_5 : ∀ (a0 : Int) (a1 : Bool) (a2 : Int) (a3 : Option Addr) (b3 c3 : Nat) (a4 : Int), buildV Try.prog 65 [(0, .int .i64 a0), (2, .int .i64 a2), (1, .bool a1), (7, .int .i64 a4), (5, .slice a3 b3 c3)] = some (.agg #[.int .i64 a0, .bool a1, .int .i64 a2, .slice none 0 0, .slice none 0 0, .slice a3 b3 c3, .slice none 0 0, .int .i64 a4]) := by intros; kernel_rfl
theorem ze_65 : zeroOf Try.prog 65 = some (.agg #[(.int .i64 0), (.bool false), (.int .i64 0), (.slice none 0 0), (.slice none 0 0), (.slice none 0 0), (.slice none 0 0), (.int .i64 0)]) := by kernel_rfl
theorem sz_65 : sizeT Try.prog 65 = some 8 := by kernel_rfl
theorem fo_65_3 : fieldOff Try.prog 65 3 = some 3 := by kernel_rfl
theorem ld_61 : aggSize Try.prog 61 = some none := by kernel_rfl
theorem fo_24_2 : fieldOff Try.prog 24 2 = some 2 := by kernel_rfl
theorem ez_61 : elemZeroOk Try.prog 61 = true := by kernel_rfl
theorem sz_61 : sizeT Try.prog 61 = some 1 := by kernel_rfl
theorem fo_24_4 : fieldOff Try.prog 24 4 = some 4 := by kernel_rfl
theorem ld_22 : aggSize Try.prog 22 = some none := by kernel_rfl
theorem el_22 : elemOf Try.prog 22 = some (none, 1) := by kernel_rfl
theorem bu_67_1 : ∀ (a0 : Int), buildV Try.prog 67 [(1, .int .i64 a0)] = some (.agg #[.bool false, .int .i64 a0]) := by intros; kernel_rfl
theorem ez_62 : elemZeroOk Try.prog 62 = true := by kernel_rfl
theorem bu_67_0_1 : ∀ (a0 : Bool) (a1 : Int), buildV Try.prog 67 [(0, .bool a0), (1, .int .i64 a1)] = some (.agg #[.bool a0, .int .i64 a1]) := by intros; kernel_rfl
theorem ld_65 : aggSize Try.prog 65 = some (some 8) := by kernel_rfl
theorem fo_65_5 : fieldOff Try.prog 65 5 = some 5 := by kernel_rfl
theorem ld_60 : aggSize Try.prog 60 = some none := by kernel_rfl
theorem bu_65_4_5 : ∀ (a0 : Option Addr) (b0 c0 : Nat) (a1 : Option Addr) (b1 c1 : Nat), buildV Try.prog 65 [(4, .slice a0 b0 c0), (5, .slice a1 b1 c1)] = some (.agg #[.int .i64 0, .bool false, .int .i64 0, .slice none 0 0, .slice a0 b0 c0, .slice a1 b1 c1, .slice none 0 0, .int .i64 0]) := by intros; kernel_rfl
theorem bu_33_1 : ∀ (a0 : Option Addr) (b0 c0 : Nat), buildV Try.prog 33 [(1, .slice a0 b0 c0)] = some (.agg #[.slice none 0 0, .slice a0 b0 c0]) := by intros; kernel_rfl
theorem fo_29_4 : fieldOff Try.prog 29 4 = some 4 := by kernel_rfl
theorem co_20 : codeOf Try.prog 20 = true := by kernel_rfl
theorem fo_29_6 : fieldOff Try.prog 29 6 = some 6 := by kernel_rfl
theorem ld_27 : aggSize Try.prog 27 = some none := by kernel_rfl
theorem co_21 : codeOf Try.prog 21 = true := by kernel_rfl
theorem fo_29_7 : fieldOff Try.prog 29 7 = some 7 := by kernel_rfl
theorem fo_29_9 : fieldOff Try.prog 29 9 = some 9 := by kernel_rfl
theorem sz_26 : sizeT Try.prog 26 = some 1 := by kernel_rfl
theorem sz_27 : sizeT Try.prog 27 = some 1 := by kernel_rfl
theorem fo_29_0 : fieldOff Try.prog 29 0 = some 0 := by kernel_rfl
theorem ld_25 : aggSize Try.prog 25 = some none := by kernel_rfl
theorem fo_29_1 : fieldOff Try.prog 29 1 = some 1 := by kernel_rfl
theorem fo_33_1 : fieldOff Try.prog 33 1 = some 1 := by kernel_rfl
theorem ld_31 : aggSize Try.prog 31 = some none := by kernel_rfl
theorem fo_29_2 : fieldOff Try.prog 29 2 = some 2 := by kernel_rfl
theorem ld_2 : aggSize Try.prog 2 = some none := by kernel_rfl
theorem el_31 : elemOf Try.prog 31 = some (none, 8) := by kernel_rfl
theorem fo_29_3 : fieldOff Try.prog 29 3 = some 3 := by kernel_rfl
theorem fo_65_2 : fieldOff Try.prog 65 2 = some 2 := by kernel_rfl
theorem ld_41 : aggSize Try.prog 41 = some (some 2) := by kernel_rfl
theorem co_22 : codeOf Try.prog 22 = true := by kernel_rfl
theorem co_23 : codeOf Try.prog 23 = true := by kernel_rfl
theorem co_24 : codeOf Try.prog 24 = true := by kernel_rfl
theorem co_25 : codeOf Try.prog 25 = true := by kernel_rfl
theorem co_26 : codeOf Try.prog 26 = true := by kernel_rfl
theorem co_27 : codeOf Try.prog 27 = true := by kernel_rfl
theorem fo_65_4 : fieldOff Try.prog 65 4 = some 4 := by kernel_rfl
theorem ld_62 : aggSize Try.prog 62 = some none := by kernel_rfl
theorem el_62 : elemOf Try.prog 62 = some (none, 2) := by kernel_rfl
theorem ld_67 : aggSize Try.prog 67 = some (some 2) := by kernel_rfl
theorem ze_67 : zeroOf Try.prog 67 = some (.agg #[(.bool false), (.int .i64 0)]) := by kernel_rfl
theorem sz_67 : sizeT Try.prog 67 = some 2 := by kernel_rfl
theorem fo_67_1 : fieldOff Try.prog 67 1 = some 1 := by kernel_rfl
theorem co_28 : codeOf Try.prog 28 = true := by kernel_rfl
theorem fo_67_0 : fieldOff Try.prog 67 0 = some 0 := by kernel_rfl
theorem co_29 : codeOf Try.prog 29 = true := by kernel_rfl
theorem fo_41_0 : fieldOff Try.prog 41 0 = some 0 := by kernel_rfl
theorem ld_39 : aggSize Try.prog 39 = some none := by kernel_rfl
theorem co_30 : codeOf Try.prog 30 = true := by kernel_rfl
theorem ez_26 : elemZeroOk Try.prog 26 = true := by kernel_rfl
theorem co_31 : codeOf Try.prog 31 = true := by kernel_rfl
theorem bu_41_0_1 : ∀ (a0 : Int) (a1 : Int), buildV Try.prog 41 [(0, .int .u8 a0), (1, .int .i64 a1)] = some (.agg #[.int .u8 a0, .int .i64 a1]) := by intros; kernel_rfl
theorem co_32 : codeOf Try.prog 32 = true := by kernel_rfl
theorem el_26 : elemOf Try.prog 26 = some (none, 2) := by kernel_rfl
theorem ze_4 : zeroOf Try.prog 4 = some (.bool false) := by kernel_rfl
theorem sz_4 : sizeT Try.prog 4 = some 1 := by kernel_rfl
theorem co_33 : codeOf Try.prog 33 = true := by kernel_rfl
theorem co_35 : codeOf Try.prog 35 = true := by kernel_rfl
theorem fo_29_8 : fieldOff Try.prog 29 8 = some 8 := by kernel_rfl
theorem fo_29_10 : fieldOff Try.prog 29 10 = some 10 := by kernel_rfl
theorem fo_29_11 : fieldOff Try.prog 29 11 = some 11 := by kernel_rfl
theorem bu_24_0_1_2_3_4 : ∀ (a0 : Int) (a1 : Int) (a2 : Int) (a3 : Bool) (a4 : Option Addr) (b4 c4 : Nat), buildV Try.prog 24 [(0, .int .i64 a0), (1, .int .i64 a1), (2, .int .i64 a2), (3, .bool a3), (4, .slice a4 b4 c4)] = some (.agg #[.int .i64 a0, .int .i64 a1, .int .i64 a2, .bool a3, .slice a4 b4 c4]) := by intros; kernel_rfl
theorem co_37 : codeOf Try.prog 37 = true := by kernel_rfl
theorem co_36 : codeOf Try.prog 36 = true := by kernel_rfl
theorem fo_41_1 : fieldOff Try.prog 41 1 = some 1 := by kernel_rfl
theorem bu_29_2 : ∀ (a0 : Int), buildV Try.prog 29 [(2, .int .i64 a0)] = some (.agg #[.int .u8 0, .int .i64 0, .int .i64 a0, .int .i64 0, .slice none 0 0, .slice none 0 0, .slice none 0 0, .slice none 0 0, .int .i64 0, .slice none 0 0, .bool false, .int .i64 0]) := by intros; kernel_rfl
theorem co_38 : codeOf Try.prog 38 = true := by kernel_rfl
theorem el_27 : elemOf Try.prog 27 = some (none, 4) := by kernel_rfl
theorem ld_92 : aggSize Try.prog 92 = some (some 4) := by kernel_rfl
theorem ez_27 : elemZeroOk Try.prog 27 = true := by kernel_rfl
theorem co_39 : codeOf Try.prog 39 = true := by kernel_rfl
theorem bu_100_0_1_2_3_6 : ∀ (a0 : Int) (a1 : Option Addr) (a2 : Option Nat) (a3 : Option Nat) (a4 : Option Nat), buildV Try.prog 100 [(0, .int .i64 a0), (1, .pointer a1), (2, .map a2), (3, .map a3), (6, .map a4)] = some (.agg #[.int .i64 a0, .pointer a1, .map a2, .map a3, .int .i64 0, .bool false, .map a4]) := by intros; kernel_rfl
theorem bu_103_0 : ∀ (a0 : Int), buildV Try.prog 103 [(0, .int .i64 a0)] = some (.agg #[.int .i64 a0, .slice none 0 0, .int .i64 0, .bool false]) := by intros; kernel_rfl
theorem co_40 : codeOf Try.prog 40 = true := by kernel_rfl
theorem co_41 : codeOf Try.prog 41 = true := by kernel_rfl
theorem bu_109_0_7 : ∀ (a0 : Int) (a1 : Int) (a2 : Int), buildV Try.prog 109 [(0, .int .u8 a0), (7, .agg #[.int .u8 a1, .int .i64 a2])] = some (.agg #[.int .u8 a0, .int .i64 0, .string ⟨#[]⟩, .pointer none, .int .u8 0, .int .i64 0, .int .i64 0, .slice none 0 0, .int .u8 a1, .int .i64 a2, .pointer none]) := by intros; kernel_rfl
theorem co_42 : codeOf Try.prog 42 = true := by kernel_rfl
theorem co_43 : codeOf Try.prog 43 = true := by kernel_rfl
theorem bu_114_7 : ∀ (a0 : Int) (a1 : Int), buildV Try.prog 114 [(7, .agg #[.int .u8 a0, .int .i64 a1])] = some (.agg #[.int .u8 0, .int .i64 0, .int .i64 0, .string ⟨#[]⟩, .pointer none, .int .u8 0, .int .i64 0, .int .i64 0, .slice none 0 0, .int .u8 a0, .int .i64 a1, .pointer none, .bool false]) := by intros; kernel_rfl
theorem co_44 : codeOf Try.prog 44 = true := by kernel_rfl
theorem ld_37 : aggSize Try.prog 37 = some none := by kernel_rfl
theorem co_45 : codeOf Try.prog 45 = true := by kernel_rfl
theorem co_47 : codeOf Try.prog 47 = true := by kernel_rfl
theorem bu_109_0_5_6 : ∀ (a0 : Int) (a1 : Int) (a2 : Option Addr) (b2 c2 : Nat), buildV Try.prog 109 [(0, .int .u8 a0), (5, .int .i64 a1), (6, .slice a2 b2 c2)] = some (.agg #[.int .u8 a0, .int .i64 0, .string ⟨#[]⟩, .pointer none, .int .u8 0, .int .i64 0, .int .i64 a1, .slice a2 b2 c2, .int .u8 0, .int .i64 0, .pointer none]) := by intros; kernel_rfl
theorem co_48 : codeOf Try.prog 48 = true := by kernel_rfl
theorem bu_114_5_6 : ∀ (a0 : Int) (a1 : Option Addr) (b1 c1 : Nat), buildV Try.prog 114 [(5, .int .i64 a0), (6, .slice a1 b1 c1)] = some (.agg #[.int .u8 0, .int .i64 0, .int .i64 0, .string ⟨#[]⟩, .pointer none, .int .u8 0, .int .i64 0, .int .i64 a0, .slice a1 b1 c1, .int .u8 0, .int .i64 0, .pointer none, .bool false]) := by intros; kernel_rfl
theorem co_49 : codeOf Try.prog 49 = true := by kernel_rfl
theorem el_61 : elemOf Try.prog 61 = some (none, 1) := by kernel_rfl
theorem co_50 : codeOf Try.prog 50 = true := by kernel_rfl
theorem co_46 : codeOf Try.prog 46 = true := by kernel_rfl
theorem fo_109_7 : fieldOff Try.prog 109 7 = some 8 := by kernel_rfl
theorem co_51 : codeOf Try.prog 51 = true := by kernel_rfl
theorem co_34 : codeOf Try.prog 34 = true := by kernel_rfl
theorem co_52 : codeOf Try.prog 52 = true := by kernel_rfl
theorem bu_29_ : buildV Try.prog 29 [] = some (.agg #[.int .u8 0, .int .i64 0, .int .i64 0, .int .i64 0, .slice none 0 0, .slice none 0 0, .slice none 0 0, .slice none 0 0, .int .i64 0, .slice none 0 0, .bool false, .int .i64 0]) := by kernel_rfl
theorem fo_65_0 : fieldOff Try.prog 65 0 = some 0 := by kernel_rfl
theorem co_53 : codeOf Try.prog 53 = true := by kernel_rfl
theorem co_54 : codeOf Try.prog 54 = true := by kernel_rfl
theorem fo_65_7 : fieldOff Try.prog 65 7 = some 7 := by kernel_rfl
theorem bu_29_0_1_2_3_4 : ∀ (a0 : Int) (a1 : Int) (a2 : Int) (a3 : Int) (a4 : Option Addr) (b4 c4 : Nat), buildV Try.prog 29 [(0, .int .u8 a0), (1, .int .i64 a1), (2, .int .i64 a2), (3, .int .i64 a3), (4, .slice a4 b4 c4)] = some (.agg #[.int .u8 a0, .int .i64 a1, .int .i64 a2, .int .i64 a3, .slice a4 b4 c4, .slice none 0 0, .slice none 0 0, .slice none 0 0, .int .i64 0, .slice none 0 0, .bool false, .int .i64 0]) := by intros; kernel_rfl
theorem fo_65_1 : fieldOff Try.prog 65 1 = some 1 := by kernel_rfl
theorem el_89 : elemOf Try.prog 89 = some (none, 1) := by kernel_rfl
theorem bu_125_0_1 : ∀ (a0 : Bool) (a1 : Int), buildV Try.prog 125 [(0, .bool a0), (1, .int .i64 a1)] = some (.agg #[.bool a0, .int .i64 a1, .int .i64 0, .int .i64 0, .slice none 0 0, .slice none 0 0]) := by intros; kernel_rfl
theorem fo_100_2 : fieldOff Try.prog 100 2 = some 2 := by kernel_rfl
theorem ld_96 : aggSize Try.prog 96 = some none := by kernel_rfl
theorem co_55 : codeOf Try.prog 55 = true := by kernel_rfl
theorem fo_100_1 : fieldOff Try.prog 100 1 = some 1 := by kernel_rfl
theorem ld_93 : aggSize Try.prog 93 = some none := by kernel_rfl
theorem co_56 : codeOf Try.prog 56 = true := by kernel_rfl
theorem fo_100_0 : fieldOff Try.prog 100 0 = some 0 := by kernel_rfl
theorem co_57 : codeOf Try.prog 57 = true := by kernel_rfl
theorem fo_109_0 : fieldOff Try.prog 109 0 = some 0 := by kernel_rfl
theorem fo_100_4 : fieldOff Try.prog 100 4 = some 4 := by kernel_rfl
theorem sz_2 : sizeT Try.prog 2 = some 1 := by kernel_rfl
theorem fo_109_1 : fieldOff Try.prog 109 1 = some 1 := by kernel_rfl
theorem co_58 : codeOf Try.prog 58 = true := by kernel_rfl
theorem co_59 : codeOf Try.prog 59 = true := by kernel_rfl
theorem fo_114_0 : fieldOff Try.prog 114 0 = some 0 := by kernel_rfl
theorem fo_103_1 : fieldOff Try.prog 103 1 = some 1 := by kernel_rfl
theorem ld_101 : aggSize Try.prog 101 = some none := by kernel_rfl
theorem co_60 : codeOf Try.prog 60 = true := by kernel_rfl
theorem co_61 : codeOf Try.prog 61 = true := by kernel_rfl
theorem fo_103_0 : fieldOff Try.prog 103 0 = some 0 := by kernel_rfl
theorem el_101 : elemOf Try.prog 101 = some (none, 1) := by kernel_rfl
theorem ld_111 : aggSize Try.prog 111 = some none := by kernel_rfl
theorem fo_103_3 : fieldOff Try.prog 103 3 = some 3 := by kernel_rfl
theorem fo_114_9 : fieldOff Try.prog 114 9 = some 12 := by kernel_rfl
theorem fo_103_2 : fieldOff Try.prog 103 2 = some 2 := by kernel_rfl
theorem fo_114_1 : fieldOff Try.prog 114 1 = some 2 := by kernel_rfl
theorem ez_101 : elemZeroOk Try.prog 101 = true := by kernel_rfl
theorem sz_101 : sizeT Try.prog 101 = some 1 := by kernel_rfl
theorem sz_111 : sizeT Try.prog 111 = some 1 := by kernel_rfl
theorem co_62 : codeOf Try.prog 62 = true := by kernel_rfl
theorem fo_109_6 : fieldOff Try.prog 109 6 = some 7 := by kernel_rfl
theorem fo_100_5 : fieldOff Try.prog 100 5 = some 5 := by kernel_rfl
theorem fo_100_6 : fieldOff Try.prog 100 6 = some 6 := by kernel_rfl
theorem ld_98 : aggSize Try.prog 98 = some none := by kernel_rfl
theorem fo_109_5 : fieldOff Try.prog 109 5 = some 6 := by kernel_rfl
theorem co_63 : codeOf Try.prog 63 = true := by kernel_rfl
theorem fo_125_2 : fieldOff Try.prog 125 2 = some 2 := by kernel_rfl
theorem fo_125_1 : fieldOff Try.prog 125 1 = some 1 := by kernel_rfl
theorem fo_125_3 : fieldOff Try.prog 125 3 = some 3 := by kernel_rfl
theorem sz_3 : sizeT Try.prog 3 = some 1 := by kernel_rfl
theorem fo_125_5 : fieldOff Try.prog 125 5 = some 5 := by kernel_rfl
theorem fo_125_4 : fieldOff Try.prog 125 4 = some 4 := by kernel_rfl
theorem ez_22 : elemZeroOk Try.prog 22 = true := by kernel_rfl
theorem sz_22 : sizeT Try.prog 22 = some 1 := by kernel_rfl
theorem co_64 : codeOf Try.prog 64 = true := by kernel_rfl
theorem co_65 : codeOf Try.prog 65 = true := by kernel_rfl
theorem fo_114_2 : fieldOff Try.prog 114 2 = some 3 := by kernel_rfl
theorem ld_9 : aggSize Try.prog 9 = some none := by kernel_rfl
theorem fo_114_3 : fieldOff Try.prog 114 3 = some 4 := by kernel_rfl
theorem ld_112 : aggSize Try.prog 112 = some none := by kernel_rfl
theorem co_66 : codeOf Try.prog 66 = true := by kernel_rfl
theorem fo_114_6 : fieldOff Try.prog 114 6 = some 8 := by kernel_rfl
theorem fo_125_0 : fieldOff Try.prog 125 0 = some 0 := by kernel_rfl
theorem ze_3 : zeroOf Try.prog 3 = some (.int .i64 0) := by kernel_rfl
theorem co_67 : codeOf Try.prog 67 = true := by kernel_rfl
theorem fo_132_0 : fieldOff Try.prog 132 0 = some 0 := by kernel_rfl
theorem ld_130 : aggSize Try.prog 130 = some none := by kernel_rfl
theorem el_130 : elemOf Try.prog 130 = some (none, 4) := by kernel_rfl
theorem fo_134_1 : fieldOff Try.prog 134 1 = some 2 := by kernel_rfl
def fs_3 := PLift.up (And.intro (And.intro (And.intro (And.intro (fun i o H => @aLoad_agg _ _ _ i o H ld_24) (And.intro (fun a c => calleeV_func _ a c co_4) @ze_33)) (And.intro (And.intro (fun i o H v => @aStore_at _ _ _ i o H v sz_33) (fun i o H => @aLoad_agg _ _ _ i o H ld_29)) (And.intro (fun a c => calleeV_func _ a c co_5) @ze_29))) (And.intro (And.intro (fun i o H v => @aStore_at _ _ _ i o H v sz_29) (And.intro (fun i o H => @aLoad_agg _ _ _ i o H ld_33) (fun a c => calleeV_func _ a c co_6))) (And.intro (And.intro (fun a c => calleeV_func _ a c co_7) @ze_41) (And.intro (fun i o H v => @aStore_at _ _ _ i o H v sz_41) (fun a c => calleeV_func _ a c co_8))))) (And.intro (And.intro (And.intro (fun cx cy p q => @b_neqB _ _ cx cy p q Try.underlying4) (And.intro (fun a c => calleeV_func _ a c co_9) (fun a c => calleeV_func _ a c co_11))) (And.intro (And.intro (fun a c => calleeV_func _ a c co_10) (fun a c => calleeV_func _ a c co_12)) (And.intro (fun a c => calleeV_func _ a c co_13) @bu_41_))) (And.intro (And.intro @fo_29_5 (And.intro (fun i o H => @aLoad_one _ _ i o H ld_26) (fun a c => calleeV_func _ a c co_15))) (And.intro (And.intro (fun a c => calleeV_func _ a c co_16) (fun a c => calleeV_func _ a c co_14)) (And.intro (fun a c => calleeV_func _ a c co_17) (fun a c => calleeV_func _ a c co_18))))))
def fs_4 := PLift.up (And.intro (And.intro (And.intro (And.intro (fun i o H => @aLoad_agg _ _ _ i o H ld_33) (And.intro @ze_33 @fo_24_1)) (And.intro (And.intro (fun i o H => @aLoad_one _ _ i o H ld_3) (fun a c => calleeV_func _ a c co_19)) (And.intro @fo_24_0 @fo_24_3))) (And.intro (And.intro (And.intro (fun i o H => @aLoad_one _ _ i o H ld_4) @bu_59_0_4) (And.intro @bu_65_0_2_1_7_5 @ze_65)) (And.intro (And.intro (fun i o H v => @aStore_at _ _ _ i o H v sz_65) @fo_65_3) (And.intro (fun i o H => @aLoad_one _ _ i o H ld_61) @fo_24_2)))) (And.intro (And.intro (And.intro (fun c r f H R d ty p af g x y u => @st_append _ c r f H R d ty p af g x y _ u ez_61) (And.intro (fun i o H v => @aStore_at _ _ _ i o H v sz_61) @fo_24_4)) (And.intro (And.intro (fun i o H => @aLoad_one _ _ i o H ld_22) (fun H ty c => @lenV_slice _ H ty _ _ c Try.underlying22)) (And.intro (fun c r f H R d ty p af g x y => @st_indexAddr _ c r f H R d ty p af g _ x y _ el_22) @bu_67_1))) (And.intro (And.intro (And.intro (fun c r f H R d ty p af g x y u => @st_append _ c r f H R d ty p af g x y _ u ez_62) @bu_67_0_1) (And.intro (fun i o H => @aLoad_agg _ _ _ i o H ld_65) @fo_65_5)) (And.intro (And.intro (fun i o H => @aLoad_one _ _ i o H ld_60) @bu_65_4_5) (And.intro @bu_33_1 (fun i o H v => @aStore_at _ _ _ i o H v sz_33))))))
def fs_5 := PLift.up (And.intro (And.intro (And.intro (fun i o H => @aLoad_agg _ _ _ i o H ld_29) (And.intro @ze_29 @fo_29_4)) (And.intro (And.intro (fun i o H => @aLoad_one _ _ i o H ld_26) (fun a c => calleeV_func _ a c co_20)) (And.intro @fo_29_5 @fo_29_6))) (And.intro (And.intro (fun i o H => @aLoad_one _ _ i o H ld_27) (And.intro (fun a c => calleeV_func _ a c co_21) @fo_29_7)) (And.intro (And.intro @fo_29_9 (fun i o H v => @aStore_at _ _ _ i o H v sz_26)) (And.intro (fun i o H v => @aStore_at _ _ _ i o H v sz_27) (fun i o H v => @aStore_at _ _ _ i o H v sz_29)))))
def fs_6 := PLift.up (And.intro (And.intro (And.intro (And.intro @fo_29_0 (And.intro (fun i o H => @aLoad_one _ _ i o H ld_25) @fo_29_1)) (And.intro (fun i o H => @aLoad_one _ _ i o H ld_3) (And.intro @fo_33_1 (fun i o H => @aLoad_one _ _ i o H ld_31)))) (And.intro (And.intro (fun H ty c => @lenV_slice _ H ty _ _ c Try.underlying31) (And.intro @fo_29_2 (fun i o H => @aLoad_one _ _ i o H ld_2))) (And.intro (fun c r f H R d ty p af g x y => @st_indexAddr _ c r f H R d ty p af g _ x y _ el_31) (And.intro (fun i o H => @aLoad_agg _ _ _ i o H ld_65) @ze_65)))) (And.intro (And.intro (And.intro (fun i o H v => @aStore_at _ _ _ i o H v sz_65) (And.intro @fo_29_3 @fo_65_5)) (And.intro (fun i o H => @aLoad_one _ _ i o H ld_60) (And.intro (fun H ty c => @lenV_slice _ H ty _ _ c Try.underlying60) @fo_29_4))) (And.intro (And.intro (fun i o H => @aLoad_one _ _ i o H ld_26) (And.intro (fun H ty c => @lenV_slice _ H ty _ _ c Try.underlying26) @fo_65_2)) (And.intro @fo_65_3 (And.intro (fun i o H => @aLoad_one _ _ i o H ld_61) (fun H ty c => @lenV_slice _ H ty _ _ c Try.underlying61))))))
def fs_7 := PLift.up (And.intro (And.intro (And.intro (fun i o H => @aLoad_agg _ _ _ i o H ld_41) @ze_41) (And.intro (fun a c => calleeV_func _ a c co_22) (And.intro (fun a c => calleeV_func _ a c co_23) @bu_41_))) (And.intro (And.intro (fun i o H v => @aStore_at _ _ _ i o H v sz_41) (And.intro (fun a c => calleeV_func _ a c co_11) (fun a c => calleeV_func _ a c co_24))) (And.intro (fun a c => calleeV_func _ a c co_25) (And.intro (fun a c => calleeV_func _ a c co_26) (fun a c => calleeV_func _ a c co_27)))))
def fs_8 := PLift.up (And.intro (And.intro (And.intro (And.intro @fo_29_0 (fun i o H => @aLoad_one _ _ i o H ld_25)) (And.intro @fo_29_1 (And.intro (fun i o H => @aLoad_one _ _ i o H ld_3) @fo_33_1))) (And.intro (And.intro (fun i o H => @aLoad_one _ _ i o H ld_31) (fun H ty c => @lenV_slice _ H ty _ _ c Try.underlying31)) (And.intro @fo_29_2 (And.intro (fun i o H => @aLoad_one _ _ i o H ld_2) (fun c r f H R d ty p af g x y => @st_indexAddr _ c r f H R d ty p af g _ x y _ el_31))))) (And.intro (And.intro (And.intro @fo_29_3 @fo_65_5) (And.intro (fun i o H => @aLoad_one _ _ i o H ld_60) (And.intro (fun H ty c => @lenV_slice _ H ty _ _ c Try.underlying60) @fo_29_4))) (And.intro (And.intro (fun i o H => @aLoad_one _ _ i o H ld_26) (And.intro (fun H ty c => @lenV_slice _ H ty _ _ c Try.underlying26) @fo_65_2)) (And.intro @fo_65_3 (And.intro (fun i o H => @aLoad_one _ _ i o H ld_61) (fun H ty c => @lenV_slice _ H ty _ _ c Try.underlying61))))))
def fs_9 := PLift.up (And.intro (And.intro (And.intro (And.intro (fun i o H => @aLoad_agg _ _ _ i o H ld_41) (And.intro @ze_41 (fun i o H => @aLoad_agg _ _ _ i o H ld_33))) (And.intro (And.intro (fun i o H => @aLoad_agg _ _ _ i o H ld_29) (fun a c => calleeV_func _ a c co_8)) (And.intro @fo_33_1 (fun i o H => @aLoad_one _ _ i o H ld_31)))) (And.intro (And.intro (fun H ty c => @lenV_slice _ H ty _ _ c Try.underlying31) (And.intro @bu_41_ (fun i o H v => @aStore_at _ _ _ i o H v sz_41))) (And.intro (And.intro (fun c r f H R d ty p af g x y => @st_indexAddr _ c r f H R d ty p af g _ x y _ el_31) @fo_65_4) (And.intro (fun i o H => @aLoad_one _ _ i o H ld_62) (fun H ty c => @lenV_slice _ H ty _ _ c Try.underlying62))))) (And.intro (And.intro (And.intro (fun c r f H R d ty p af g x y => @st_indexAddr _ c r f H R d ty p af g _ x y _ el_62) (And.intro (fun i o H => @aLoad_agg _ _ _ i o H ld_67) @ze_67)) (And.intro (And.intro (fun i o H v => @aStore_at _ _ _ i o H v sz_67) @fo_67_1) (And.intro (fun i o H => @aLoad_one _ _ i o H ld_3) (fun a c => calleeV_func _ a c co_28)))) (And.intro (And.intro (And.intro @fo_67_0 (fun i o H => @aLoad_one _ _ i o H ld_4)) (And.intro (fun a c => calleeV_func _ a c co_29) @fo_41_0)) (And.intro (And.intro (fun i o H => @aLoad_one _ _ i o H ld_39) (fun a c => calleeV_func _ a c co_30)) (And.intro (fun c r f H R d ty p af g x y u => @st_append _ c r f H R d ty p af g x y _ u ez_26) (fun a c => calleeV_func _ a c co_26))))))
def fs_10 := PLift.up (And.intro (And.intro (And.intro (fun cx => @b_eql_ptr _ _ _ cx Try.underlying48) (fun i o H => @aLoad_agg _ _ _ i o H ld_33)) (And.intro (fun a c => calleeV_func _ a c co_29) (And.intro @ze_41 (fun i o H v => @aStore_at _ _ _ i o H v sz_41)))) (And.intro (And.intro @fo_41_0 (And.intro (fun i o H => @aLoad_one _ _ i o H ld_39) (fun i o H => @aLoad_agg _ _ _ i o H ld_41))) (And.intro (fun a c => calleeV_func _ a c co_30) (And.intro (fun a c => calleeV_func _ a c co_31) (fun a c => calleeV_func _ a c co_12)))))
def fs_11 := PLift.up (And.intro (And.intro (fun i o H => @aLoad_agg _ _ _ i o H ld_41) @ze_41) (And.intro @bu_41_0_1 (fun i o H v => @aStore_at _ _ _ i o H v sz_41)))
def fs_12 := PLift.up (And.intro (And.intro (And.intro (fun cx => @b_eql_ptr _ _ _ cx Try.underlying48) (And.intro (fun i o H => @aLoad_agg _ _ _ i o H ld_33) (fun a c => calleeV_func _ a c co_29))) (And.intro @ze_41 (And.intro (fun i o H v => @aStore_at _ _ _ i o H v sz_41) (fun i o H => @aLoad_agg _ _ _ i o H ld_41)))) (And.intro (And.intro (fun a c => calleeV_func _ a c co_24) (And.intro @fo_29_4 (fun i o H => @aLoad_one _ _ i o H ld_26))) (And.intro (fun a c => calleeV_func _ a c co_32) (And.intro (fun i o H v => @aStore_at _ _ _ i o H v sz_26) (fun c r f H R d ty p af g x y => @st_indexAddr _ c r f H R d ty p af g _ x y _ el_26)))))
def fs_13 := PLift.up (And.intro (And.intro (And.intro (fun i o H => @aLoad_agg _ _ _ i o H ld_41) (And.intro @ze_41 (fun i o H => @aLoad_agg _ _ _ i o H ld_33))) (And.intro (fun a c => calleeV_func _ a c co_29) (And.intro @ze_4 (fun i o H v => @aStore_at _ _ _ i o H v sz_41)))) (And.intro (And.intro (fun i o H v => @aStore_at _ _ _ i o H v sz_4) (And.intro (fun a c => calleeV_func _ a c co_33) (fun i o H => @aLoad_one _ _ i o H ld_4))) (And.intro (And.intro @fo_41_0 (fun i o H => @aLoad_one _ _ i o H ld_39)) (And.intro (fun cx cy p q => @b_eqlB _ _ cx cy p q Try.underlying4) @bu_41_))))
def fs_14 := PLift.up (And.intro (fun H ty c => @lenV_slice _ H ty _ _ c Try.underlying26) (And.intro (fun c r f H R d ty p af g x y => @st_indexAddr _ c r f H R d ty p af g _ x y _ el_26) (fun i o H => @aLoad_agg _ _ _ i o H ld_41)))
def fs_15 := PLift.up (fun a c => calleeV_func _ a c co_32)
def fs_16 := PLift.up (And.intro (And.intro (fun H ty c => @lenV_slice _ H ty _ _ c Try.underlying26) (fun c r f H R d ty p af g x y => @st_indexAddr _ c r f H R d ty p af g _ x y _ el_26)) (And.intro (fun i o H => @aLoad_agg _ _ _ i o H ld_41) (And.intro (fun c r f H R d ty p af g x y u => @st_append _ c r f H R d ty p af g x y _ u ez_26) @bu_41_)))
def fs_17 := PLift.up (And.intro (And.intro (And.intro (And.intro @fo_29_0 (fun i o H => @aLoad_one _ _ i o H ld_25)) (And.intro @fo_29_1 (And.intro (fun i o H => @aLoad_one _ _ i o H ld_3) @fo_29_2))) (And.intro (And.intro (fun i o H => @aLoad_one _ _ i o H ld_2) @fo_29_3) (And.intro @fo_29_4 (And.intro (fun i o H => @aLoad_one _ _ i o H ld_26) (fun a c => calleeV_func _ a c co_14))))) (And.intro (And.intro (And.intro @fo_29_5 @fo_29_6) (And.intro (fun i o H => @aLoad_one _ _ i o H ld_27) (And.intro (fun a c => calleeV_func _ a c co_35) @fo_29_7))) (And.intro (And.intro @fo_29_8 (And.intro @fo_29_9 @fo_29_10)) (And.intro (fun i o H => @aLoad_one _ _ i o H ld_4) (And.intro (fun cx cy p q => @b_eqlB _ _ cx cy p q Try.underlying4) @fo_29_11)))))
def fs_20 := PLift.up (And.intro (And.intro (fun H ty c => @lenV_slice _ H ty _ _ c Try.underlying26) (fun c r f H R d ty p af g x y => @st_indexAddr _ c r f H R d ty p af g _ x y _ el_26)) (And.intro (fun i o H => @aLoad_agg _ _ _ i o H ld_41) (fun c r f H R d ty p af g x y u => @st_append _ c r f H R d ty p af g x y _ u ez_26)))
def fs_21 := PLift.up (And.intro (And.intro (fun H ty c => @lenV_slice _ H ty _ _ c Try.underlying27) (fun c r f H R d ty p af g x y => @st_indexAddr _ c r f H R d ty p af g _ x y _ el_27)) (And.intro (fun i o H => @aLoad_agg _ _ _ i o H ld_92) (fun c r f H R d ty p af g x y u => @st_append _ c r f H R d ty p af g x y _ u ez_27)))
def fs_22 := PLift.up (And.intro (fun a c => calleeV_func _ a c co_39) @bu_100_0_1_2_3_6)
def fs_23 := PLift.up @bu_103_0
def fs_24 := PLift.up (And.intro (And.intro (And.intro (fun i o H => @aLoad_agg _ _ _ i o H ld_41) @ze_41) (And.intro (fun a c => calleeV_func _ a c co_40) @bu_41_)) (And.intro (And.intro (fun i o H v => @aStore_at _ _ _ i o H v sz_41) (fun a c => calleeV_func _ a c co_41)) (And.intro @bu_109_0_7 (fun a c => calleeV_func _ a c co_42))))
def fs_25 := PLift.up (And.intro (And.intro (fun i o H => @aLoad_agg _ _ _ i o H ld_41) (And.intro @ze_41 (fun a c => calleeV_func _ a c co_43))) (And.intro (And.intro @bu_41_ (fun i o H v => @aStore_at _ _ _ i o H v sz_41)) (And.intro @bu_114_7 (fun a c => calleeV_func _ a c co_44))))
def fs_26 := PLift.up (And.intro (And.intro (And.intro (fun i o H => @aLoad_agg _ _ _ i o H ld_41) (And.intro @ze_41 (fun i o H => @aLoad_one _ _ i o H ld_37))) (And.intro (fun a c => calleeV_func _ a c co_40) (And.intro @bu_41_ (fun i o H v => @aStore_at _ _ _ i o H v sz_41)))) (And.intro (And.intro (fun a c => calleeV_func _ a c co_45) (And.intro (fun H ty c => @lenV_slice _ H ty _ _ c Try.underlying26) (fun a c => calleeV_func _ a c co_47))) (And.intro (fun a c => calleeV_func _ a c co_32) (And.intro @bu_109_0_5_6 (fun a c => calleeV_func _ a c co_42)))))
def fs_27 := PLift.up (And.intro (And.intro (And.intro (fun i o H => @aLoad_agg _ _ _ i o H ld_41) (And.intro @ze_41 (fun H ty c => @lenV_slice _ H ty _ _ c Try.underlying26))) (And.intro @bu_41_ (And.intro (fun i o H v => @aStore_at _ _ _ i o H v sz_41) (fun c r f H R d ty p af g x y => @st_indexAddr _ c r f H R d ty p af g _ x y _ el_26)))) (And.intro (And.intro @fo_41_0 (And.intro (fun i o H => @aLoad_one _ _ i o H ld_39) (fun a c => calleeV_func _ a c co_48))) (And.intro (And.intro (fun cx => @b_eql_ptr _ _ _ cx Try.underlying111) (fun c r f H R d ty p af g x y u => @st_append _ c r f H R d ty p af g x y _ u ez_26)) (And.intro @bu_114_5_6 (fun a c => calleeV_func _ a c co_44)))))
def fs_28 := PLift.up (And.intro (And.intro (And.intro (fun i o H => @aLoad_agg _ _ _ i o H ld_41) @ze_41) (And.intro @fo_29_2 (And.intro (fun i o H => @aLoad_one _ _ i o H ld_2) @bu_41_0_1))) (And.intro (And.intro (fun a c => calleeV_func _ a c co_49) (And.intro (fun H ty c => @lenV_slice _ H ty _ _ c Try.underlying26) (fun c r f H R d ty p af g x y => @st_indexAddr _ c r f H R d ty p af g _ x y _ el_26))) (And.intro (fun a c => calleeV_func _ a c co_30) (And.intro @bu_41_ (fun i o H v => @aStore_at _ _ _ i o H v sz_41)))))
def fs_29 := PLift.up (And.intro (And.intro (And.intro (And.intro (fun i o H => @aLoad_agg _ _ _ i o H ld_41) @ze_41) (And.intro (fun i o H => @aLoad_agg _ _ _ i o H ld_33) (And.intro (fun i o H => @aLoad_agg _ _ _ i o H ld_29) (fun a c => calleeV_func _ a c co_8)))) (And.intro (And.intro @fo_29_4 (fun i o H => @aLoad_one _ _ i o H ld_26)) (And.intro (fun H ty c => @lenV_slice _ H ty _ _ c Try.underlying26) (And.intro @bu_41_ (fun i o H v => @aStore_at _ _ _ i o H v sz_41))))) (And.intro (And.intro (And.intro (fun c r f H R d ty p af g x y => @st_indexAddr _ c r f H R d ty p af g _ x y _ el_26) @fo_33_1) (And.intro (fun i o H => @aLoad_one _ _ i o H ld_31) (And.intro @fo_29_1 (fun i o H => @aLoad_one _ _ i o H ld_3)))) (And.intro (And.intro (fun c r f H R d ty p af g x y => @st_indexAddr _ c r f H R d ty p af g _ x y _ el_31) @fo_65_3) (And.intro (fun i o H => @aLoad_one _ _ i o H ld_61) (And.intro (fun c r f H R d ty p af g x y => @st_indexAddr _ c r f H R d ty p af g _ x y _ el_61) (fun i o H => @aLoad_one _ _ i o H ld_4))))))
def fs_30 := PLift.up (And.intro (fun i o H => @aLoad_agg _ _ _ i o H ld_41) (And.intro (fun a c => calleeV_func _ a c co_50) (fun cx => @b_neq_ptr _ _ _ cx Try.underlying105)))
def fs_31 := PLift.up (And.intro (And.intro (And.intro (fun a c => calleeV_func _ a c co_40) (fun i o H => @aLoad_agg _ _ _ i o H ld_41)) (And.intro (fun a c => calleeV_func _ a c co_46) (And.intro (fun cx => @b_eql_ptr _ _ _ cx Try.underlying105) (fun a c => calleeV_func _ a c co_41)))) (And.intro (And.intro @fo_109_7 (fun i o H v => @aStore_at _ _ _ i o H v sz_41)) (And.intro @fo_41_1 (And.intro (fun i o H => @aLoad_one _ _ i o H ld_2) (fun a c => calleeV_func _ a c co_51)))))
def fs_32 := PLift.up (And.intro (fun cx => @b_eql_sl _ _ _ cx Try.underlying26) (fun c r f H R d ty p af g x y u => @st_append _ c r f H R d ty p af g x y _ u ez_26))
def fs_33 := PLift.up (And.intro (And.intro (fun i o H => @aLoad_agg _ _ _ i o H ld_41) (And.intro @ze_41 (fun i o H => @aLoad_one _ _ i o H ld_4))) (And.intro (fun i o H => @aLoad_one _ _ i o H ld_37) (And.intro (fun a c => calleeV_func _ a c co_34) (fun i o H v => @aStore_at _ _ _ i o H v sz_41))))
def fs_34 := PLift.up (And.intro (And.intro (fun i o H => @aLoad_agg _ _ _ i o H ld_41) (And.intro @ze_41 (fun a c => calleeV_func _ a c co_46))) (And.intro (And.intro (fun cx => @b_neq_ptr _ _ _ cx Try.underlying105) @fo_109_7) (And.intro (fun i o H v => @aStore_at _ _ _ i o H v sz_41) @bu_41_)))
def fs_35 := PLift.up (And.intro (fun H ty c => @lenV_slice _ H ty _ _ c Try.underlying27) (And.intro (fun c r f H R d ty p af g x y => @st_indexAddr _ c r f H R d ty p af g _ x y _ el_27) (fun i o H => @aLoad_agg _ _ _ i o H ld_92)))
def fs_36 := PLift.up (And.intro (And.intro (And.intro (And.intro (And.intro (fun i o H => @aLoad_agg _ _ _ i o H ld_29) @ze_29) (And.intro (fun i o H => @aLoad_agg _ _ _ i o H ld_41) (fun a c => calleeV_func _ a c co_52))) (And.intro (And.intro @fo_33_1 (fun i o H => @aLoad_one _ _ i o H ld_31)) (And.intro (fun H ty c => @lenV_slice _ H ty _ _ c Try.underlying31) @bu_29_))) (And.intro (And.intro (And.intro (fun i o H v => @aStore_at _ _ _ i o H v sz_29) (fun c r f H R d ty p af g x y => @st_indexAddr _ c r f H R d ty p af g _ x y _ el_31)) (And.intro @fo_65_3 (fun i o H => @aLoad_one _ _ i o H ld_61))) (And.intro (And.intro (fun H ty c => @lenV_slice _ H ty _ _ c Try.underlying61) @fo_65_2) (And.intro (fun i o H => @aLoad_one _ _ i o H ld_3) (And.intro @fo_65_0 (fun c r f H R d ty p af g x y => @st_indexAddr _ c r f H R d ty p af g _ x y _ el_61)))))) (And.intro (And.intro (And.intro (And.intro (fun i o H => @aLoad_one _ _ i o H ld_4) (fun a c => calleeV_func _ a c co_53)) (And.intro (fun a c => calleeV_func _ a c co_54) @fo_41_1)) (And.intro (And.intro (fun i o H => @aLoad_one _ _ i o H ld_2) @fo_65_7) (And.intro @bu_29_0_1_2_3_4 (And.intro @fo_29_4 (fun i o H => @aLoad_one _ _ i o H ld_26))))) (And.intro (And.intro (And.intro (fun c r f H R d ty p af g x y => @st_indexAddr _ c r f H R d ty p af g _ x y _ el_26) (fun a c => calleeV_func _ a c co_24)) (And.intro @ze_41 (fun i o H v => @aStore_at _ _ _ i o H v sz_41))) (And.intro (And.intro @fo_65_1 (fun H ty c => @lenV_slice _ H ty _ _ c Try.underlying26)) (And.intro (fun a c => calleeV_func _ a c co_32) (And.intro @fo_29_5 (fun i o H v => @aStore_at _ _ _ i o H v sz_26)))))))
def fs_38 := PLift.up (And.intro (And.intro (fun i o H => @aLoad_agg _ _ _ i o H ld_41) (And.intro @ze_41 (fun i o H => @aLoad_agg _ _ _ i o H ld_29))) (And.intro (fun a c => calleeV_func _ a c co_28) (And.intro (fun i o H v => @aStore_at _ _ _ i o H v sz_41) (fun a c => calleeV_func _ a c co_34))))
def fs_39 := PLift.up @bu_125_0_1
def fs_40 := PLift.up (And.intro (And.intro (fun cx => @b_neq_ptr _ _ _ cx Try.underlying37) @fo_100_2) (And.intro (fun i o H => @aLoad_one _ _ i o H ld_96) (fun cx => @b_neq_map _ _ _ _ cx Try.underlying96)))
def fs_41 := PLift.up (And.intro (And.intro (And.intro @fo_41_0 (fun i o H => @aLoad_one _ _ i o H ld_39)) (And.intro @fo_41_1 (fun i o H => @aLoad_one _ _ i o H ld_2))) (And.intro (And.intro (fun i o H => @aLoad_agg _ _ _ i o H ld_41) (fun a c => calleeV_func _ a c co_55)) (And.intro (fun a c => calleeV_func _ a c co_50) (fun cx => @b_neq_ptr _ _ _ cx Try.underlying105))))
def fs_42 := PLift.up (And.intro (And.intro (And.intro (And.intro (fun i o H => @aLoad_agg _ _ _ i o H ld_41) @ze_41) (And.intro @fo_100_1 (And.intro (fun i o H => @aLoad_one _ _ i o H ld_93) (fun a c => calleeV_func _ a c co_56)))) (And.intro (And.intro @fo_100_0 (fun i o H => @aLoad_one _ _ i o H ld_3)) (And.intro @bu_41_ (And.intro (fun i o H v => @aStore_at _ _ _ i o H v sz_41) (fun a c => calleeV_func _ a c co_57))))) (And.intro (And.intro (And.intro @fo_109_0 (fun i o H => @aLoad_one _ _ i o H ld_39)) (And.intro @fo_100_4 (And.intro (fun i o H => @aLoad_one _ _ i o H ld_2) (fun i o H v => @aStore_at _ _ _ i o H v sz_2)))) (And.intro (And.intro @fo_109_1 @fo_100_2) (And.intro (fun i o H => @aLoad_one _ _ i o H ld_96) (And.intro (fun a c => calleeV_func _ a c co_51) @bu_41_0_1)))))
def fs_43 := PLift.up (And.intro (And.intro (fun i o H => @aLoad_agg _ _ _ i o H ld_41) (fun a c => calleeV_func _ a c co_58)) (And.intro (fun a c => calleeV_func _ a c co_59) (And.intro (fun a c => calleeV_func _ a c co_48) (fun cx => @b_neq_ptr _ _ _ cx Try.underlying111))))
def fs_44 := PLift.up (And.intro (And.intro (And.intro (And.intro (fun i o H => @aLoad_agg _ _ _ i o H ld_41) (And.intro @ze_41 @bu_41_0_1)) (And.intro @fo_114_0 (And.intro (fun i o H v => @aStore_at _ _ _ i o H v sz_41) @fo_103_1))) (And.intro (And.intro (fun i o H => @aLoad_one _ _ i o H ld_101) (And.intro (fun H ty c => @lenV_slice _ H ty _ _ c Try.underlying101) (fun a c => calleeV_func _ a c co_60))) (And.intro (And.intro (fun a c => calleeV_func _ a c co_61) @fo_103_0) (And.intro (fun i o H => @aLoad_one _ _ i o H ld_3) @bu_41_)))) (And.intro (And.intro (And.intro (fun c r f H R d ty p af g x y => @st_indexAddr _ c r f H R d ty p af g _ x y _ el_101) (And.intro (fun i o H => @aLoad_one _ _ i o H ld_111) @fo_41_1)) (And.intro (And.intro (fun i o H => @aLoad_one _ _ i o H ld_2) (fun i o H v => @aStore_at _ _ _ i o H v sz_2)) (And.intro @fo_103_3 (fun i o H => @aLoad_one _ _ i o H ld_4)))) (And.intro (And.intro @fo_114_9 (And.intro (fun i o H v => @aStore_at _ _ _ i o H v sz_4) @fo_103_2)) (And.intro (And.intro @fo_114_1 (fun c r f H R d ty p af g x y u => @st_append _ c r f H R d ty p af g x y _ u ez_101)) (And.intro (fun i o H v => @aStore_at _ _ _ i o H v sz_101) (fun i o H v => @aStore_at _ _ _ i o H v sz_111))))))
def fs_45 := PLift.up (And.intro (And.intro (fun i o H => @aLoad_one _ _ i o H ld_37) (fun i o H => @aLoad_agg _ _ _ i o H ld_41)) (And.intro (fun a c => calleeV_func _ a c co_46) (fun cx => @b_eql_ptr _ _ _ cx Try.underlying105)))
def fs_46 := PLift.up (And.intro (And.intro @fo_41_0 (fun i o H => @aLoad_one _ _ i o H ld_39)) (And.intro (fun i o H => @aLoad_agg _ _ _ i o H ld_41) (fun a c => calleeV_func _ a c co_50)))
def fs_47 := PLift.up (fun a c => calleeV_func _ a c co_62)
def fs_48 := PLift.up (And.intro (And.intro @fo_103_1 (And.intro (fun i o H => @aLoad_one _ _ i o H ld_101) (fun H ty c => @lenV_slice _ H ty _ _ c Try.underlying101))) (And.intro (And.intro (fun c r f H R d ty p af g x y => @st_indexAddr _ c r f H R d ty p af g _ x y _ el_101) (fun i o H => @aLoad_one _ _ i o H ld_111)) (And.intro @fo_114_0 (fun i o H => @aLoad_agg _ _ _ i o H ld_41))))
def fs_49 := PLift.up (And.intro (And.intro (fun i o H => @aLoad_agg _ _ _ i o H ld_41) (And.intro (fun a c => calleeV_func _ a c co_46) (fun cx => @b_neq_ptr _ _ _ cx Try.underlying105))) (And.intro @fo_109_6 (And.intro (fun i o H => @aLoad_one _ _ i o H ld_26) (fun a c => calleeV_func _ a c co_32))))
def fs_50 := PLift.up (And.intro (And.intro (And.intro (fun a c => calleeV_func _ a c co_40) (fun i o H => @aLoad_agg _ _ _ i o H ld_41)) (And.intro (fun a c => calleeV_func _ a c co_55) (And.intro @fo_100_2 (fun i o H => @aLoad_one _ _ i o H ld_96)))) (And.intro (And.intro @fo_41_1 (And.intro (fun i o H => @aLoad_one _ _ i o H ld_2) (fun cx => @b_neq_ptr _ _ _ cx Try.underlying105))) (And.intro @fo_109_0 (And.intro (fun i o H => @aLoad_one _ _ i o H ld_39) @fo_41_0))))
def fs_51 := PLift.up (And.intro (And.intro @fo_100_5 (fun i o H => @aLoad_one _ _ i o H ld_4)) (And.intro @fo_100_6 (fun i o H => @aLoad_one _ _ i o H ld_98)))
def fs_52 := PLift.up (And.intro (And.intro (fun i o H => @aLoad_agg _ _ _ i o H ld_41) (fun a c => calleeV_func _ a c co_46)) (And.intro (fun cx => @b_neq_ptr _ _ _ cx Try.underlying105) (And.intro @fo_109_5 (fun i o H => @aLoad_one _ _ i o H ld_3))))
def fs_53 := PLift.up (And.intro (And.intro (fun a c => calleeV_func _ a c co_40) @fo_100_1) (And.intro (fun i o H => @aLoad_one _ _ i o H ld_93) (fun a c => calleeV_func _ a c co_56)))
def fs_54 := PLift.up (And.intro (fun a c => calleeV_func _ a c co_40) (And.intro @fo_100_0 (fun i o H => @aLoad_one _ _ i o H ld_3)))
def fs_55 := PLift.up (And.intro @fo_41_0 (fun i o H => @aLoad_one _ _ i o H ld_39))
def fs_56 := PLift.up (And.intro (fun a c => calleeV_func _ a c co_63) (And.intro @fo_125_2 (fun i o H => @aLoad_one _ _ i o H ld_3)))
def fs_57 := PLift.up (And.intro (And.intro (And.intro (fun a c => calleeV_func _ a c co_63) (And.intro @fo_125_1 (fun i o H => @aLoad_one _ _ i o H ld_3))) (And.intro (And.intro @fo_125_2 @fo_125_3) (And.intro (fun i o H v => @aStore_at _ _ _ i o H v sz_3) @fo_125_5))) (And.intro (And.intro (fun i o H => @aLoad_one _ _ i o H ld_22) (And.intro (fun H ty c => @lenV_slice _ H ty _ _ c Try.underlying22) @fo_125_4)) (And.intro (And.intro (fun c r f H R d ty p af g x y u => @st_append _ c r f H R d ty p af g x y _ u ez_22) (fun i o H v => @aStore_at _ _ _ i o H v sz_22)) (And.intro (fun a c => calleeV_func _ a c co_64) (fun c r f H R d ty p af g x y => @st_indexAddr _ c r f H R d ty p af g _ x y _ el_22)))))
def fs_58 := PLift.up (And.intro (And.intro @fo_41_0 (fun i o H => @aLoad_one _ _ i o H ld_39)) (And.intro (fun i o H => @aLoad_agg _ _ _ i o H ld_41) (fun a c => calleeV_func _ a c co_65)))
def fs_59 := PLift.up (And.intro @fo_41_0 (fun i o H => @aLoad_one _ _ i o H ld_39))
def fs_60 := PLift.up (And.intro (And.intro @fo_103_1 (And.intro (fun i o H => @aLoad_one _ _ i o H ld_101) (fun H ty c => @lenV_slice _ H ty _ _ c Try.underlying101))) (And.intro (fun c r f H R d ty p af g x y => @st_indexAddr _ c r f H R d ty p af g _ x y _ el_101) (And.intro (fun i o H => @aLoad_one _ _ i o H ld_111) (fun a c => calleeV_func _ a c co_61))))
def fs_61 := PLift.up (And.intro (And.intro (And.intro @fo_114_0 (And.intro @fo_41_0 (fun i o H => @aLoad_one _ _ i o H ld_39))) (And.intro @fo_114_2 (And.intro (fun i o H => @aLoad_one _ _ i o H ld_9) (fun H ty c => @lenV_string _ H ty _ c Try.underlying9)))) (And.intro (And.intro @fo_114_3 (And.intro (fun i o H => @aLoad_one _ _ i o H ld_112) (fun a c => calleeV_func _ a c co_66))) (And.intro @fo_114_6 (And.intro (fun i o H => @aLoad_one _ _ i o H ld_26) (fun H ty c => @lenV_slice _ H ty _ _ c Try.underlying26)))))
def fs_62 := PLift.up (And.intro (fun H ty c => @lenV_slice _ H ty _ _ c Try.underlying26) (And.intro (fun c r f H R d ty p af g x y => @st_indexAddr _ c r f H R d ty p af g _ x y _ el_26) (fun i o H => @aLoad_agg _ _ _ i o H ld_41)))
def fs_63 := PLift.up (And.intro (fun cx => @b_eql_ptr _ _ _ cx Try.underlying93) (And.intro @fo_125_0 (fun i o H => @aLoad_one _ _ i o H ld_4)))
def fs_64 := PLift.up (And.intro (And.intro (And.intro (fun i o H => @aLoad_one _ _ i o H ld_93) @fo_125_5) (And.intro (fun i o H => @aLoad_one _ _ i o H ld_22) (And.intro (fun c r f H R d ty p af g x y => @st_indexAddr _ c r f H R d ty p af g _ x y _ el_22) (fun i o H => @aLoad_one _ _ i o H ld_3)))) (And.intro (And.intro (fun H ty c => @lenV_slice _ H ty _ _ c Try.underlying22) @ze_3) (And.intro (fun i o H v => @aStore_at _ _ _ i o H v sz_3) (And.intro (fun i o H v => @aStore_at _ _ _ i o H v sz_22) (fun a c => calleeV_func _ a c co_67)))))
def fs_65 := PLift.up (And.intro (And.intro @fo_41_0 (fun i o H => @aLoad_one _ _ i o H ld_39)) (And.intro @fo_41_1 (fun i o H => @aLoad_one _ _ i o H ld_2)))
def fs_67 := PLift.up (And.intro (And.intro (fun i o H => @aLoad_one _ _ i o H ld_3) (fun i o H => @aLoad_one _ _ i o H ld_93)) (And.intro @fo_125_5 (And.intro (fun i o H => @aLoad_one _ _ i o H ld_22) (fun c r f H R d ty p af g x y => @st_indexAddr _ c r f H R d ty p af g _ x y _ el_22))))
end Go.Proofs.Yteomehedmfemiaa
