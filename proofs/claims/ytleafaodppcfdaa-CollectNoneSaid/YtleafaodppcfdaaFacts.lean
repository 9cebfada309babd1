/- Facts on the types of the program's functions, each reckoned by the kernel. Written by a program. -/
import Derived.Test.YtleafaodppcfdaaProg
import Derived.Test.YtleafaodppcfdaaAmGo
import Derived.KernelRfl
namespace Go.Proofs.Ytleafaodppcfdaa
open Go.RowKit
theorem co_4 : codeOf Try.prog 4 = true := by kernel_rfl
theorem bu_32_ : buildV Try.prog 32 [] = some (.agg #[.int .i64 0, .pointer none, .map none, .map none, .int .i64 0, .bool false, .map none]) := by kernel_rfl
theorem bu_36_ : buildV Try.prog 36 [] = some (.agg #[.pointer none, .int .i64 0, .int .i64 0, .map none, .slice none 0 0, .slice none 0 0]) := by kernel_rfl
theorem co_5 : codeOf Try.prog 5 = true := by kernel_rfl
theorem co_6 : codeOf Try.prog 6 = true := by kernel_rfl
theorem co_7 : codeOf Try.prog 7 = true := by kernel_rfl
theorem co_8 : codeOf Try.prog 8 = true := by kernel_rfl
theorem co_9 : codeOf Try.prog 9 = true := by kernel_rfl
theorem bu_45_ : buildV Try.prog 45 [] = some (.agg #[.int .u8 0, .int .i64 0]) := by kernel_rfl
theorem co_10 : codeOf Try.prog 10 = true := by kernel_rfl
theorem co_11 : codeOf Try.prog 11 = true := by kernel_rfl
theorem co_12 : codeOf Try.prog 12 = true := by kernel_rfl
theorem bu_36_0 : ∀ (a0 : Option Addr), buildV Try.prog 36 [(0, .pointer a0)] = some (.agg #[.pointer a0, .int .i64 0, .int .i64 0, .map none, .slice none 0 0, .slice none 0 0]) := by intros; kernel_rfl
theorem co_13 : codeOf Try.prog 13 = true := by kernel_rfl
theorem fo_36_1 : fieldOff Try.prog 36 1 = some 1 := by kernel_rfl
theorem ld_3 : aggSize Try.prog 3 = some none := by kernel_rfl
theorem fo_36_4 : fieldOff Try.prog 36 4 = some 4 := by kernel_rfl
theorem ld_34 : aggSize Try.prog 34 = some none := by kernel_rfl
theorem co_14 : codeOf Try.prog 14 = true := by kernel_rfl
theorem co_15 : codeOf Try.prog 15 = true := by kernel_rfl
theorem fo_36_5 : fieldOff Try.prog 36 5 = some 5 := by kernel_rfl
theorem fo_36_0 : fieldOff Try.prog 36 0 = some 0 := by kernel_rfl
theorem ld_26 : aggSize Try.prog 26 = some none := by kernel_rfl
theorem co_16 : codeOf Try.prog 16 = true := by kernel_rfl
theorem fo_36_2 : fieldOff Try.prog 36 2 = some 2 := by kernel_rfl
theorem sz_3 : sizeT Try.prog 3 = some 1 := by kernel_rfl
theorem co_17 : codeOf Try.prog 17 = true := by kernel_rfl
theorem el_34 : elemOf Try.prog 34 = some (none, 2) := by kernel_rfl
theorem ld_45 : aggSize Try.prog 45 = some (some 2) := by kernel_rfl
theorem ze_45 : zeroOf Try.prog 45 = some (.agg #[(.int .u8 0), (.int .i64 0)]) := by kernel_rfl
theorem sz_45 : sizeT Try.prog 45 = some 2 := by kernel_rfl
theorem fo_36_3 : fieldOff Try.prog 36 3 = some 3 := by kernel_rfl
theorem ld_33 : aggSize Try.prog 33 = some none := by kernel_rfl
theorem sz_34 : sizeT Try.prog 34 = some 1 := by kernel_rfl
theorem co_18 : codeOf Try.prog 18 = true := by kernel_rfl
theorem sz_33 : sizeT Try.prog 33 = some 1 := by kernel_rfl
theorem co_19 : codeOf Try.prog 19 = true := by kernel_rfl
theorem co_20 : codeOf Try.prog 20 = true := by kernel_rfl
theorem fo_58_0 : fieldOff Try.prog 58 0 = some 0 := by kernel_rfl
theorem co_21 : codeOf Try.prog 21 = true := by kernel_rfl
theorem bu_45_0_1 : ∀ (a0 : Int) (a1 : Int), buildV Try.prog 45 [(0, .int .u8 a0), (1, .int .i64 a1)] = some (.agg #[.int .u8 a0, .int .i64 a1]) := by intros; kernel_rfl
theorem co_22 : codeOf Try.prog 22 = true := by kernel_rfl
theorem fo_58_1 : fieldOff Try.prog 58 1 = some 1 := by kernel_rfl
theorem ld_22 : aggSize Try.prog 22 = some none := by kernel_rfl
theorem co_23 : codeOf Try.prog 23 = true := by kernel_rfl
theorem co_24 : codeOf Try.prog 24 = true := by kernel_rfl
theorem co_25 : codeOf Try.prog 25 = true := by kernel_rfl
theorem fo_32_0 : fieldOff Try.prog 32 0 = some 0 := by kernel_rfl
theorem co_26 : codeOf Try.prog 26 = true := by kernel_rfl
theorem co_27 : codeOf Try.prog 27 = true := by kernel_rfl
theorem fo_32_5 : fieldOff Try.prog 32 5 = some 5 := by kernel_rfl
theorem sz_4 : sizeT Try.prog 4 = some 1 := by kernel_rfl
theorem fo_32_6 : fieldOff Try.prog 32 6 = some 6 := by kernel_rfl
theorem ld_30 : aggSize Try.prog 30 = some none := by kernel_rfl
theorem co_30 : codeOf Try.prog 30 = true := by kernel_rfl
theorem co_29 : codeOf Try.prog 29 = true := by kernel_rfl
theorem co_28 : codeOf Try.prog 28 = true := by kernel_rfl
theorem co_31 : codeOf Try.prog 31 = true := by kernel_rfl
theorem fo_45_1 : fieldOff Try.prog 45 1 = some 1 := by kernel_rfl
theorem ld_2 : aggSize Try.prog 2 = some none := by kernel_rfl
theorem fo_74_0 : fieldOff Try.prog 74 0 = some 0 := by kernel_rfl
theorem ld_43 : aggSize Try.prog 43 = some none := by kernel_rfl
theorem fo_32_3 : fieldOff Try.prog 32 3 = some 3 := by kernel_rfl
theorem ld_29 : aggSize Try.prog 29 = some none := by kernel_rfl
theorem fo_74_2 : fieldOff Try.prog 74 2 = some 2 := by kernel_rfl
theorem ld_9 : aggSize Try.prog 9 = some none := by kernel_rfl
theorem fo_32_2 : fieldOff Try.prog 32 2 = some 2 := by kernel_rfl
theorem ld_28 : aggSize Try.prog 28 = some none := by kernel_rfl
theorem fo_32_1 : fieldOff Try.prog 32 1 = some 1 := by kernel_rfl
theorem ld_27 : aggSize Try.prog 27 = some none := by kernel_rfl
theorem co_32 : codeOf Try.prog 32 = true := by kernel_rfl
theorem ez_34 : elemZeroOk Try.prog 34 = true := by kernel_rfl
theorem co_33 : codeOf Try.prog 33 = true := by kernel_rfl
theorem co_34 : codeOf Try.prog 34 = true := by kernel_rfl
theorem bu_81_0 : ∀ (a0 : Option Addr), buildV Try.prog 81 [(0, .pointer a0)] = some (.agg #[.pointer a0, .int .i64 0, .int .i64 0, .slice none 0 0, .slice none 0 0, .slice none 0 0]) := by intros; kernel_rfl
theorem bu_58_0_1_2_3 : ∀ (a0 : Option Addr) (a1 : Option Addr) (a2 : Option Addr) (a3 : Option Addr), buildV Try.prog 58 [(0, .pointer a0), (1, .pointer a1), (2, .pointer a2), (3, .pointer a3)] = some (.agg #[.pointer a0, .pointer a1, .pointer a2, .pointer a3, .slice none 0 0]) := by intros; kernel_rfl
theorem co_36 : codeOf Try.prog 36 = true := by kernel_rfl
theorem bu_74_0_3 : ∀ (a0 : Int) (a1 : Option Addr), buildV Try.prog 74 [(0, .int .u8 a0), (3, .pointer a1)] = some (.agg #[.int .u8 a0, .int .i64 0, .string ⟨#[]⟩, .pointer a1, .int .u8 0, .int .i64 0, .int .i64 0, .slice none 0 0, .int .u8 0, .int .i64 0, .pointer none]) := by intros; kernel_rfl
theorem co_35 : codeOf Try.prog 35 = true := by kernel_rfl
theorem co_37 : codeOf Try.prog 37 = true := by kernel_rfl
theorem fo_45_0 : fieldOff Try.prog 45 0 = some 0 := by kernel_rfl
theorem co_38 : codeOf Try.prog 38 = true := by kernel_rfl
theorem fo_74_3 : fieldOff Try.prog 74 3 = some 3 := by kernel_rfl
theorem ld_71 : aggSize Try.prog 71 = some none := by kernel_rfl
theorem co_39 : codeOf Try.prog 39 = true := by kernel_rfl
theorem fd_45_0 : ∀ (a0 : Int) (a1 : Int), partAt Try.prog 45 0 (.agg #[.int .u8 a0, .int .i64 a1]) = some (.int .u8 a0) := by intros; kernel_rfl
theorem co_40 : codeOf Try.prog 40 = true := by kernel_rfl
theorem co_41 : codeOf Try.prog 41 = true := by kernel_rfl
theorem co_43 : codeOf Try.prog 43 = true := by kernel_rfl
theorem co_42 : codeOf Try.prog 42 = true := by kernel_rfl
theorem co_44 : codeOf Try.prog 44 = true := by kernel_rfl
theorem co_45 : codeOf Try.prog 45 = true := by kernel_rfl
theorem ze_34 : zeroOf Try.prog 34 = some (.slice none 0 0) := by kernel_rfl
theorem co_46 : codeOf Try.prog 46 = true := by kernel_rfl
theorem fo_74_4 : fieldOff Try.prog 74 4 = some 4 := by kernel_rfl
theorem co_48 : codeOf Try.prog 48 = true := by kernel_rfl
theorem fo_74_6 : fieldOff Try.prog 74 6 = some 7 := by kernel_rfl
theorem fo_74_7 : fieldOff Try.prog 74 7 = some 8 := by kernel_rfl
theorem fo_74_8 : fieldOff Try.prog 74 8 = some 10 := by kernel_rfl
theorem ld_72 : aggSize Try.prog 72 = some none := by kernel_rfl
theorem co_49 : codeOf Try.prog 49 = true := by kernel_rfl
theorem co_50 : codeOf Try.prog 50 = true := by kernel_rfl
theorem el_64 : elemOf Try.prog 64 = some (none, 1) := by kernel_rfl
theorem co_51 : codeOf Try.prog 51 = true := by kernel_rfl
theorem co_52 : codeOf Try.prog 52 = true := by kernel_rfl
theorem co_47 : codeOf Try.prog 47 = true := by kernel_rfl
theorem co_53 : codeOf Try.prog 53 = true := by kernel_rfl
theorem co_54 : codeOf Try.prog 54 = true := by kernel_rfl
theorem fo_95_2 : fieldOff Try.prog 95 2 = some 2 := by kernel_rfl
theorem fo_95_4 : fieldOff Try.prog 95 4 = some 4 := by kernel_rfl
theorem ld_64 : aggSize Try.prog 64 = some none := by kernel_rfl
theorem fo_95_3 : fieldOff Try.prog 95 3 = some 3 := by kernel_rfl
theorem fo_95_5 : fieldOff Try.prog 95 5 = some 5 := by kernel_rfl
theorem ez_64 : elemZeroOk Try.prog 64 = true := by kernel_rfl
theorem sz_64 : sizeT Try.prog 64 = some 1 := by kernel_rfl
theorem co_55 : codeOf Try.prog 55 = true := by kernel_rfl
theorem co_56 : codeOf Try.prog 56 = true := by kernel_rfl
theorem bu_32_0_1_2_3_6 : ∀ (a0 : Int) (a1 : Option Addr) (a2 : Option Nat) (a3 : Option Nat) (a4 : Option Nat), buildV Try.prog 32 [(0, .int .i64 a0), (1, .pointer a1), (2, .map a2), (3, .map a3), (6, .map a4)] = some (.agg #[.int .i64 a0, .pointer a1, .map a2, .map a3, .int .i64 0, .bool false, .map a4]) := by intros; kernel_rfl
theorem bu_100_0 : ∀ (a0 : Int), buildV Try.prog 100 [(0, .int .i64 a0)] = some (.agg #[.int .i64 a0, .slice none 0 0, .int .i64 0, .bool false]) := by intros; kernel_rfl
theorem co_57 : codeOf Try.prog 57 = true := by kernel_rfl
theorem fo_32_4 : fieldOff Try.prog 32 4 = some 4 := by kernel_rfl
theorem sz_2 : sizeT Try.prog 2 = some 1 := by kernel_rfl
theorem fo_74_1 : fieldOff Try.prog 74 1 = some 1 := by kernel_rfl
theorem bu_105_1 : ∀ (a0 : Option Nat), buildV Try.prog 105 [(1, .map a0)] = some (.agg #[.slice none 0 0, .map a0]) := by intros; kernel_rfl
theorem co_58 : codeOf Try.prog 58 = true := by kernel_rfl
theorem fo_105_1 : fieldOff Try.prog 105 1 = some 1 := by kernel_rfl
theorem ld_102 : aggSize Try.prog 102 = some none := by kernel_rfl
theorem fo_105_0 : fieldOff Try.prog 105 0 = some 0 := by kernel_rfl
theorem ld_103 : aggSize Try.prog 103 = some none := by kernel_rfl
theorem el_103 : elemOf Try.prog 103 = some (none, 4) := by kernel_rfl
theorem fo_108_1 : fieldOff Try.prog 108 1 = some 2 := by kernel_rfl
theorem co_59 : codeOf Try.prog 59 = true := by kernel_rfl
theorem co_60 : codeOf Try.prog 60 = true := by kernel_rfl
theorem co_61 : codeOf Try.prog 61 = true := by kernel_rfl
theorem co_62 : codeOf Try.prog 62 = true := by kernel_rfl
theorem sz_103 : sizeT Try.prog 103 = some 1 := by kernel_rfl
theorem ld_108 : aggSize Try.prog 108 = some (some 4) := by kernel_rfl
theorem ze_108 : zeroOf Try.prog 108 = some (.agg #[(.int .u8 0), (.int .i64 0), (.int .u8 0), (.int .i64 0)]) := by kernel_rfl
theorem sz_108 : sizeT Try.prog 108 = some 4 := by kernel_rfl
theorem fo_108_0 : fieldOff Try.prog 108 0 = some 0 := by kernel_rfl
theorem bu_108_0_1 : ∀ (a0 : Int) (a1 : Int) (a2 : Int) (a3 : Int), buildV Try.prog 108 [(0, .agg #[.int .u8 a0, .int .i64 a1]), (1, .agg #[.int .u8 a2, .int .i64 a3])] = some (.agg #[.int .u8 a0, .int .i64 a1, .int .u8 a2, .int .i64 a3]) := by intros; kernel_rfl
theorem ez_103 : elemZeroOk Try.prog 103 = true := by kernel_rfl
theorem fo_95_1 : fieldOff Try.prog 95 1 = some 1 := by kernel_rfl
theorem ld_4 : aggSize Try.prog 4 = some none := by kernel_rfl
theorem co_63 : codeOf Try.prog 63 = true := by kernel_rfl
theorem fo_115_3 : fieldOff Try.prog 115 3 = some 3 := by kernel_rfl
theorem fo_115_2 : fieldOff Try.prog 115 2 = some 2 := by kernel_rfl
theorem fo_115_1 : fieldOff Try.prog 115 1 = some 1 := by kernel_rfl
theorem ld_113 : aggSize Try.prog 113 = some none := by kernel_rfl
theorem el_113 : elemOf Try.prog 113 = some (none, 13) := by kernel_rfl
theorem ld_122 : aggSize Try.prog 122 = some (some 13) := by kernel_rfl
theorem ze_122 : zeroOf Try.prog 122 = some (.agg #[(.int .u8 0), (.int .u8 0), (.int .i64 0), (.int .i64 0), (.int .i64 0), (.slice none 0 0), (.slice none 0 0), (.slice none 0 0), (.slice none 0 0), (.int .i64 0), (.slice none 0 0), (.bool false), (.int .i64 0)]) := by kernel_rfl
theorem sz_122 : sizeT Try.prog 122 = some 13 := by kernel_rfl
theorem fo_122_1 : fieldOff Try.prog 122 1 = some 1 := by kernel_rfl
theorem ld_120 : aggSize Try.prog 120 = some (some 12) := by kernel_rfl
theorem ze_120 : zeroOf Try.prog 120 = some (.agg #[(.int .u8 0), (.int .i64 0), (.int .i64 0), (.int .i64 0), (.slice none 0 0), (.slice none 0 0), (.slice none 0 0), (.slice none 0 0), (.int .i64 0), (.slice none 0 0), (.bool false), (.int .i64 0)]) := by kernel_rfl
theorem sz_120 : sizeT Try.prog 120 = some 12 := by kernel_rfl
theorem fo_120_2 : fieldOff Try.prog 120 2 = some 2 := by kernel_rfl
theorem fo_120_4 : fieldOff Try.prog 120 4 = some 4 := by kernel_rfl
theorem fo_120_5 : fieldOff Try.prog 120 5 = some 5 := by kernel_rfl
theorem fo_120_7 : fieldOff Try.prog 120 7 = some 7 := by kernel_rfl
theorem fo_120_9 : fieldOff Try.prog 120 9 = some 9 := by kernel_rfl
theorem el_123 : elemOf Try.prog 123 = some (none, 1) := by kernel_rfl
theorem co_65 : codeOf Try.prog 65 = true := by kernel_rfl
theorem co_64 : codeOf Try.prog 64 = true := by kernel_rfl
theorem fo_95_0 : fieldOff Try.prog 95 0 = some 0 := by kernel_rfl
theorem bu_95_0_1 : ∀ (a0 : Bool) (a1 : Int), buildV Try.prog 95 [(0, .bool a0), (1, .int .i64 a1)] = some (.agg #[.bool a0, .int .i64 a1, .int .i64 0, .int .i64 0, .slice none 0 0, .slice none 0 0]) := by intros; kernel_rfl
theorem co_66 : codeOf Try.prog 66 = true := by kernel_rfl
theorem co_67 : codeOf Try.prog 67 = true := by kernel_rfl
theorem co_68 : codeOf Try.prog 68 = true := by kernel_rfl
theorem co_69 : codeOf Try.prog 69 = true := by kernel_rfl
theorem co_70 : codeOf Try.prog 70 = true := by kernel_rfl
theorem co_71 : codeOf Try.prog 71 = true := by kernel_rfl
theorem co_72 : codeOf Try.prog 72 = true := by kernel_rfl
theorem co_73 : codeOf Try.prog 73 = true := by kernel_rfl
theorem co_74 : codeOf Try.prog 74 = true := by kernel_rfl
theorem co_75 : codeOf Try.prog 75 = true := by kernel_rfl
theorem co_76 : codeOf Try.prog 76 = true := by kernel_rfl
theorem co_77 : codeOf Try.prog 77 = true := by kernel_rfl
theorem co_78 : codeOf Try.prog 78 = true := by kernel_rfl
theorem ze_3 : zeroOf Try.prog 3 = some (.int .i64 0) := by kernel_rfl
theorem co_79 : codeOf Try.prog 79 = true := by kernel_rfl
theorem co_80 : codeOf Try.prog 80 = true := by kernel_rfl
theorem ze_141 : zeroOf Try.prog 141 = some (.int .u64 0) := by kernel_rfl
theorem sz_141 : sizeT Try.prog 141 = some 1 := by kernel_rfl
theorem co_81 : codeOf Try.prog 81 = true := by kernel_rfl
theorem co_82 : codeOf Try.prog 82 = true := by kernel_rfl
theorem co_83 : codeOf Try.prog 83 = true := by kernel_rfl
theorem co_84 : codeOf Try.prog 84 = true := by kernel_rfl
theorem co_85 : codeOf Try.prog 85 = true := by kernel_rfl
theorem ld_141 : aggSize Try.prog 141 = some none := by kernel_rfl
theorem co_86 : codeOf Try.prog 86 = true := by kernel_rfl
def fs_12 := PLift.up (And.intro (fun a c => calleeV_func _ a c co_25) (And.intro @fo_32_0 (fun i o H => @aLoad_one _ _ i o H ld_3)))
def fs_16 := PLift.up (And.intro (And.intro (fun a c => calleeV_func _ a c co_25) @fo_32_5) (And.intro (fun i o H v => @aStore_at _ _ _ i o H v sz_4) (And.intro @fo_32_6 (fun i o H => @aLoad_one _ _ i o H ld_30))))
def fs_18 := PLift.up (And.intro (And.intro (And.intro (And.intro (fun a c => calleeV_func _ a c co_25) (fun i o H => @aLoad_agg _ _ _ i o H ld_45)) (And.intro (fun a c => calleeV_func _ a c co_31) (fun cx => @b_eql_ptr _ _ _ cx Try.underlying69))) (And.intro (And.intro @fo_45_1 (fun i o H => @aLoad_one _ _ i o H ld_2)) (And.intro @fo_74_0 (And.intro (fun i o H => @aLoad_one _ _ i o H ld_43) @fo_32_3)))) (And.intro (And.intro (And.intro (fun i o H => @aLoad_one _ _ i o H ld_29) @fo_74_2) (And.intro (fun i o H => @aLoad_one _ _ i o H ld_9) (And.intro @fo_32_2 (fun i o H => @aLoad_one _ _ i o H ld_28)))) (And.intro (And.intro @fo_32_6 (fun i o H => @aLoad_one _ _ i o H ld_30)) (And.intro @fo_32_1 (And.intro (fun i o H => @aLoad_one _ _ i o H ld_27) (fun a c => calleeV_func _ a c co_32))))))
def fs_21 := PLift.up (And.intro (And.intro (And.intro (fun i o H => @aLoad_agg _ _ _ i o H ld_45) @ze_45) (And.intro (fun a c => calleeV_func _ a c co_25) @bu_45_)) (And.intro (And.intro (fun i o H v => @aStore_at _ _ _ i o H v sz_45) (fun a c => calleeV_func _ a c co_36)) (And.intro @bu_74_0_3 (fun a c => calleeV_func _ a c co_35))))
def fs_22 := PLift.up (And.intro (And.intro (And.intro (And.intro (fun a c => calleeV_func _ a c co_25) (fun i o H => @aLoad_agg _ _ _ i o H ld_45)) (And.intro (fun a c => calleeV_func _ a c co_37) (And.intro (fun cx => @b_eql_ptr _ _ _ cx Try.underlying69) @fo_45_0))) (And.intro (And.intro (fun i o H => @aLoad_one _ _ i o H ld_43) (And.intro (fun a c => calleeV_func _ a c co_38) @fo_74_3)) (And.intro (fun i o H => @aLoad_one _ _ i o H ld_71) (And.intro (fun a c => calleeV_func _ a c co_39) @fd_45_0)))) (And.intro (And.intro (And.intro @fo_32_1 (fun i o H => @aLoad_one _ _ i o H ld_27)) (And.intro (fun a c => calleeV_func _ a c co_40) (And.intro @fo_32_0 (fun i o H => @aLoad_one _ _ i o H ld_3)))) (And.intro (And.intro (fun a c => calleeV_func _ a c co_41) (And.intro @fo_45_1 (fun i o H => @aLoad_one _ _ i o H ld_2))) (And.intro (fun a c => calleeV_func _ a c co_43) (And.intro (fun a c => calleeV_func _ a c co_42) (fun a c => calleeV_func _ a c co_44))))))
def fs_23 := PLift.up (And.intro (fun i o H => @aLoad_agg _ _ _ i o H ld_45) (And.intro (fun a c => calleeV_func _ a c co_31) (fun cx => @b_neq_ptr _ _ _ cx Try.underlying69)))
def fs_25 := PLift.up (And.intro (And.intro (fun cx => @b_neq_ptr _ _ _ cx Try.underlying26) @fo_32_2) (And.intro (fun i o H => @aLoad_one _ _ i o H ld_28) (fun cx => @b_neq_map _ _ _ _ cx Try.underlying28)))
def fs_26 := PLift.up (And.intro (And.intro (And.intro (And.intro (fun i o H => @aLoad_agg _ _ _ i o H ld_45) (fun a c => calleeV_func _ a c co_31)) (And.intro (fun cx => @b_eql_ptr _ _ _ cx Try.underlying69) @ze_34)) (And.intro (And.intro (fun a c => calleeV_func _ a c co_46) @fo_45_0) (And.intro (fun i o H => @aLoad_one _ _ i o H ld_43) @fo_74_4))) (And.intro (And.intro (And.intro @fo_74_3 (fun i o H => @aLoad_one _ _ i o H ld_71)) (And.intro (fun a c => calleeV_func _ a c co_48) @fo_74_6)) (And.intro (And.intro (fun i o H => @aLoad_one _ _ i o H ld_34) @fo_74_7) (And.intro @fo_74_8 (And.intro (fun i o H => @aLoad_one _ _ i o H ld_72) (fun a c => calleeV_func _ a c co_49))))))
def fs_28 := PLift.up (And.intro (And.intro (And.intro (fun a c => calleeV_func _ a c co_50) (fun H ty c => @lenV_slice _ H ty _ _ c Try.underlying64)) (And.intro (fun c r f H R d ty p af g x y => @st_indexAddr _ c r f H R d ty p af g _ x y _ el_64) (And.intro (fun i o H => @aLoad_one _ _ i o H ld_3) @fo_32_2))) (And.intro (And.intro (fun i o H => @aLoad_one _ _ i o H ld_28) @fo_74_0) (And.intro (fun i o H => @aLoad_one _ _ i o H ld_43) (And.intro @bu_45_0_1 (fun c r f H R d ty p af g x y u => @st_append _ c r f H R d ty p af g x y _ u ez_34)))))
def fs_31 := PLift.up (And.intro (And.intro (And.intro (fun a c => calleeV_func _ a c co_25) (fun i o H => @aLoad_agg _ _ _ i o H ld_45)) (And.intro (fun a c => calleeV_func _ a c co_47) (And.intro @fo_32_2 (fun i o H => @aLoad_one _ _ i o H ld_28)))) (And.intro (And.intro @fo_45_1 (And.intro (fun i o H => @aLoad_one _ _ i o H ld_2) (fun cx => @b_neq_ptr _ _ _ cx Try.underlying69))) (And.intro @fo_74_0 (And.intro (fun i o H => @aLoad_one _ _ i o H ld_43) @fo_45_0))))
def fs_32 := PLift.up (And.intro (And.intro (And.intro (fun a c => calleeV_func _ a c co_53) (And.intro (fun a c => calleeV_func _ a c co_54) @fo_95_2)) (And.intro (fun i o H => @aLoad_one _ _ i o H ld_3) (And.intro @fo_95_4 (fun i o H => @aLoad_one _ _ i o H ld_64)))) (And.intro (And.intro (fun c r f H R d ty p af g x y => @st_indexAddr _ c r f H R d ty p af g _ x y _ el_64) (And.intro (fun i o H v => @aStore_at _ _ _ i o H v sz_3) @fo_95_3)) (And.intro (And.intro @fo_95_5 (fun c r f H R d ty p af g x y u => @st_append _ c r f H R d ty p af g x y _ u ez_64)) (And.intro (fun i o H v => @aStore_at _ _ _ i o H v sz_64) (fun a c => calleeV_func _ a c co_55)))))
def fs_33 := PLift.up (And.intro (fun a c => calleeV_func _ a c co_56) @bu_32_0_1_2_3_6)
def fs_34 := PLift.up @bu_100_0
def fs_35 := PLift.up (And.intro (And.intro (And.intro (And.intro (fun i o H => @aLoad_agg _ _ _ i o H ld_45) @ze_45) (And.intro @fo_32_1 (And.intro (fun i o H => @aLoad_one _ _ i o H ld_27) (fun a c => calleeV_func _ a c co_40)))) (And.intro (And.intro @fo_32_0 (fun i o H => @aLoad_one _ _ i o H ld_3)) (And.intro @bu_45_ (And.intro (fun i o H v => @aStore_at _ _ _ i o H v sz_45) (fun a c => calleeV_func _ a c co_57))))) (And.intro (And.intro (And.intro @fo_74_0 (fun i o H => @aLoad_one _ _ i o H ld_43)) (And.intro @fo_32_4 (And.intro (fun i o H => @aLoad_one _ _ i o H ld_2) (fun i o H v => @aStore_at _ _ _ i o H v sz_2)))) (And.intro (And.intro @fo_74_1 @fo_32_2) (And.intro (fun i o H => @aLoad_one _ _ i o H ld_28) (And.intro (fun a c => calleeV_func _ a c co_44) @bu_45_0_1)))))
def fs_37 := PLift.up (And.intro (And.intro @fo_45_0 (fun i o H => @aLoad_one _ _ i o H ld_43)) (And.intro (fun i o H => @aLoad_agg _ _ _ i o H ld_45) (fun a c => calleeV_func _ a c co_31)))
def fs_38 := PLift.up (And.intro (And.intro (And.intro @fo_45_0 (fun i o H => @aLoad_one _ _ i o H ld_43)) (And.intro @fo_45_1 (fun i o H => @aLoad_one _ _ i o H ld_2))) (And.intro (And.intro (fun i o H => @aLoad_agg _ _ _ i o H ld_45) (fun a c => calleeV_func _ a c co_47)) (And.intro (fun a c => calleeV_func _ a c co_31) (fun cx => @b_neq_ptr _ _ _ cx Try.underlying69))))
def fs_40 := PLift.up (And.intro (fun a c => calleeV_func _ a c co_53) (And.intro @fo_95_2 (fun i o H => @aLoad_one _ _ i o H ld_3)))
def fs_42 := PLift.up (And.intro (And.intro (And.intro (fun a c => calleeV_func _ a c co_53) (fun a c => calleeV_func _ a c co_54)) (And.intro @fo_95_1 (fun i o H => @aLoad_one _ _ i o H ld_3))) (And.intro (And.intro @fo_95_2 @fo_95_4) (And.intro (fun i o H => @aLoad_one _ _ i o H ld_64) (And.intro (fun c r f H R d ty p af g x y => @st_indexAddr _ c r f H R d ty p af g _ x y _ el_64) (fun i o H v => @aStore_at _ _ _ i o H v sz_3)))))
def fs_44 := PLift.up (And.intro (And.intro @fo_32_5 (fun i o H => @aLoad_one _ _ i o H ld_4)) (And.intro @fo_32_6 (fun i o H => @aLoad_one _ _ i o H ld_30)))
def fs_46 := PLift.up (And.intro (And.intro (And.intro (fun H ty c => @lenV_slice _ H ty _ _ c Try.underlying34) (fun c r f H R d ty p af g x y => @st_indexAddr _ c r f H R d ty p af g _ x y _ el_34)) (And.intro (fun i o H => @aLoad_agg _ _ _ i o H ld_45) @ze_45)) (And.intro (And.intro (fun i o H v => @aStore_at _ _ _ i o H v sz_45) (fun a c => calleeV_func _ a c co_47)) (And.intro (fun i o H => @aLoad_one _ _ i o H ld_34) (And.intro (fun c r f H R d ty p af g x y u => @st_append _ c r f H R d ty p af g x y _ u ez_34) (fun i o H v => @aStore_at _ _ _ i o H v sz_34)))))
def fs_47 := PLift.up (And.intro @fo_45_0 (fun i o H => @aLoad_one _ _ i o H ld_43))
def fs_48 := PLift.up (And.intro (And.intro (And.intro (fun a c => calleeV_func _ a c co_58) (And.intro @fo_105_0 (fun i o H => @aLoad_one _ _ i o H ld_103))) (And.intro (fun H ty c => @lenV_slice _ H ty _ _ c Try.underlying103) (And.intro (fun c r f H R d ty p af g x y => @st_indexAddr _ c r f H R d ty p af g _ x y _ el_103) (fun i o H => @aLoad_agg _ _ _ i o H ld_108)))) (And.intro (And.intro @ze_108 (And.intro (fun i o H v => @aStore_at _ _ _ i o H v sz_108) @fo_108_0)) (And.intro (fun i o H => @aLoad_agg _ _ _ i o H ld_45) (And.intro @fo_108_1 (fun c r f H R d ty p af g x y u => @st_append _ c r f H R d ty p af g x y _ u ez_34)))))
def fs_49 := PLift.up (And.intro (And.intro (And.intro (And.intro @fo_115_3 (fun i o H => @aLoad_one _ _ i o H ld_2)) (And.intro @bu_45_0_1 (And.intro @fo_115_2 (fun i o H => @aLoad_one _ _ i o H ld_34)))) (And.intro (And.intro @fo_115_1 (And.intro (fun i o H => @aLoad_one _ _ i o H ld_113) (fun H ty c => @lenV_slice _ H ty _ _ c Try.underlying113))) (And.intro (fun c r f H R d ty p af g x y => @st_indexAddr _ c r f H R d ty p af g _ x y _ el_113) (And.intro (fun i o H => @aLoad_agg _ _ _ i o H ld_122) @ze_122)))) (And.intro (And.intro (And.intro (fun i o H v => @aStore_at _ _ _ i o H v sz_122) (And.intro @fo_122_1 (fun i o H => @aLoad_agg _ _ _ i o H ld_120))) (And.intro @ze_120 (And.intro (fun i o H v => @aStore_at _ _ _ i o H v sz_120) @fo_120_2))) (And.intro (And.intro @fo_120_4 (And.intro @fo_120_5 @fo_120_7)) (And.intro @fo_120_9 (And.intro (fun H ty c => @lenV_slice _ H ty _ _ c Try.underlying123) (fun c r f H R d ty p af g x y => @st_indexAddr _ c r f H R d ty p af g _ x y _ el_123))))))
def fs_53 := PLift.up (And.intro (fun cx => @b_eql_ptr _ _ _ cx Try.underlying27) (And.intro @fo_95_0 (fun i o H => @aLoad_one _ _ i o H ld_4)))
def fs_54 := PLift.up (And.intro (And.intro @fo_95_4 (fun i o H => @aLoad_one _ _ i o H ld_64)) (And.intro (fun H ty c => @lenV_slice _ H ty _ _ c Try.underlying64) (And.intro (fun c r f H R d ty p af g x y => @st_indexAddr _ c r f H R d ty p af g _ x y _ el_64) (fun i o H => @aLoad_one _ _ i o H ld_3))))
def fs_55 := PLift.up (And.intro (And.intro @fo_95_5 (And.intro (fun i o H => @aLoad_one _ _ i o H ld_64) (fun H ty c => @lenV_slice _ H ty _ _ c Try.underlying64))) (And.intro (fun c r f H R d ty p af g x y => @st_indexAddr _ c r f H R d ty p af g _ x y _ el_64) (And.intro (fun i o H => @aLoad_one _ _ i o H ld_3) (fun i o H v => @aStore_at _ _ _ i o H v sz_3))))
def fs_56 := PLift.up @bu_95_0_1
def fs_57 := PLift.up (And.intro (And.intro (And.intro (fun a c => calleeV_func _ a c co_53) (And.intro @fo_95_1 (fun i o H => @aLoad_one _ _ i o H ld_3))) (And.intro (And.intro @fo_95_2 @fo_95_3) (And.intro (fun i o H v => @aStore_at _ _ _ i o H v sz_3) @fo_95_5))) (And.intro (And.intro (fun i o H => @aLoad_one _ _ i o H ld_64) (And.intro (fun H ty c => @lenV_slice _ H ty _ _ c Try.underlying64) @fo_95_4)) (And.intro (And.intro (fun c r f H R d ty p af g x y u => @st_append _ c r f H R d ty p af g x y _ u ez_64) (fun i o H v => @aStore_at _ _ _ i o H v sz_64)) (And.intro (fun a c => calleeV_func _ a c co_66) (fun c r f H R d ty p af g x y => @st_indexAddr _ c r f H R d ty p af g _ x y _ el_64)))))
def fs_66 := PLift.up (And.intro (And.intro (And.intro (fun i o H => @aLoad_one _ _ i o H ld_27) @fo_95_5) (And.intro (fun i o H => @aLoad_one _ _ i o H ld_64) (And.intro (fun c r f H R d ty p af g x y => @st_indexAddr _ c r f H R d ty p af g _ x y _ el_64) (fun i o H => @aLoad_one _ _ i o H ld_3)))) (And.intro (And.intro (fun H ty c => @lenV_slice _ H ty _ _ c Try.underlying64) @ze_3) (And.intro (fun i o H v => @aStore_at _ _ _ i o H v sz_3) (And.intro (fun i o H v => @aStore_at _ _ _ i o H v sz_64) (fun a c => calleeV_func _ a c co_79)))))
def fs_79 := PLift.up (And.intro (And.intro (fun i o H => @aLoad_one _ _ i o H ld_3) (fun i o H => @aLoad_one _ _ i o H ld_27)) (And.intro @fo_95_5 (And.intro (fun i o H => @aLoad_one _ _ i o H ld_64) (fun c r f H R d ty p af g x y => @st_indexAddr _ c r f H R d ty p af g _ x y _ el_64))))
end Go.Proofs.Ytleafaodppcfdaa
