/- Facts on the types of the program's functions, each reckoned by the kernel. Written by a program. -/
import Derived.Test.YtckgdalbdeeimaaProg
import Derived.Test.YtckgdalbdeeimaaAmGo
import Derived.KernelRfl
namespace Go.Proofs.Ytckgdalbdeeimaa
open Go.RowKit
theorem co_6 : codeOf Try.prog 6 = true := by kernel_rfl
theorem el_22 : elemOf Try.prog 22 = some (none, 1) := by kernel_rfl
theorem ld_9 : aggSize Try.prog 9 = some none := by kernel_rfl
theorem co_7 : codeOf Try.prog 7 = true := by kernel_rfl
theorem ze_30 : zeroOf Try.prog 30 = some (.agg #[(.int .u8 0), (.int .i64 0)]) := by kernel_rfl
theorem sz_30 : sizeT Try.prog 30 = some 2 := by kernel_rfl
theorem ld_30 : aggSize Try.prog 30 = some (some 2) := by kernel_rfl
theorem co_8 : codeOf Try.prog 8 = true := by kernel_rfl
theorem fo_30_1 : fieldOff Try.prog 30 1 = some 1 := by kernel_rfl
theorem ld_2 : aggSize Try.prog 2 = some none := by kernel_rfl
theorem co_9 : codeOf Try.prog 9 = true := by kernel_rfl
theorem co_10 : codeOf Try.prog 10 = true := by kernel_rfl
theorem bu_30_0_1 : ∀ (a0 : Int) (a1 : Int), buildV Try.prog 30 [(0, .int .u8 a0), (1, .int .i64 a1)] = some (.agg #[.int .u8 a0, .int .i64 a1]) := by intros; kernel_rfl
theorem el_41 : elemOf Try.prog 41 = some (none, 6) := by kernel_rfl
theorem ld_44 : aggSize Try.prog 44 = some (some 6) := by kernel_rfl
theorem ze_44 : zeroOf Try.prog 44 = some (.agg #[(.int .i64 0), (.int .i64 0), (.int .i64 0), (.int .i64 0), (.int .i64 0), (.string ⟨#[]⟩)]) := by kernel_rfl
theorem sz_44 : sizeT Try.prog 44 = some 6 := by kernel_rfl
theorem bu_30_ : buildV Try.prog 30 [] = some (.agg #[.int .u8 0, .int .i64 0]) := by kernel_rfl
theorem fo_44_1 : fieldOff Try.prog 44 1 = some 1 := by kernel_rfl
theorem ld_3 : aggSize Try.prog 3 = some none := by kernel_rfl
theorem co_11 : codeOf Try.prog 11 = true := by kernel_rfl
theorem el_37 : elemOf Try.prog 37 = some (none, 2) := by kernel_rfl
theorem fo_44_0 : fieldOff Try.prog 44 0 = some 0 := by kernel_rfl
theorem co_12 : codeOf Try.prog 12 = true := by kernel_rfl
theorem co_13 : codeOf Try.prog 13 = true := by kernel_rfl
theorem co_14 : codeOf Try.prog 14 = true := by kernel_rfl
theorem co_15 : codeOf Try.prog 15 = true := by kernel_rfl
theorem ez_37 : elemZeroOk Try.prog 37 = true := by kernel_rfl
theorem fo_30_0 : fieldOff Try.prog 30 0 = some 0 := by kernel_rfl
theorem ld_28 : aggSize Try.prog 28 = some none := by kernel_rfl
theorem co_16 : codeOf Try.prog 16 = true := by kernel_rfl
theorem co_17 : codeOf Try.prog 17 = true := by kernel_rfl
theorem co_18 : codeOf Try.prog 18 = true := by kernel_rfl
theorem co_19 : codeOf Try.prog 19 = true := by kernel_rfl
theorem co_20 : codeOf Try.prog 20 = true := by kernel_rfl
theorem co_21 : codeOf Try.prog 21 = true := by kernel_rfl
theorem co_22 : codeOf Try.prog 22 = true := by kernel_rfl
theorem bu_65_ : buildV Try.prog 65 [] = some (.agg #[.int .i64 0, .pointer none, .map none, .map none, .int .i64 0, .bool false, .map none]) := by kernel_rfl
theorem bu_68_ : buildV Try.prog 68 [] = some (.agg #[.pointer none, .int .i64 0, .int .i64 0, .map none, .slice none 0 0, .slice none 0 0]) := by kernel_rfl
theorem co_23 : codeOf Try.prog 23 = true := by kernel_rfl
theorem co_24 : codeOf Try.prog 24 = true := by kernel_rfl
theorem co_25 : codeOf Try.prog 25 = true := by kernel_rfl
theorem co_26 : codeOf Try.prog 26 = true := by kernel_rfl
theorem co_27 : codeOf Try.prog 27 = true := by kernel_rfl
theorem co_28 : codeOf Try.prog 28 = true := by kernel_rfl
theorem co_29 : codeOf Try.prog 29 = true := by kernel_rfl
theorem co_30 : codeOf Try.prog 30 = true := by kernel_rfl
theorem bu_65_0_1_2_3_6 : ∀ (a0 : Int) (a1 : Option Addr) (a2 : Option Nat) (a3 : Option Nat) (a4 : Option Nat), buildV Try.prog 65 [(0, .int .i64 a0), (1, .pointer a1), (2, .map a2), (3, .map a3), (6, .map a4)] = some (.agg #[.int .i64 a0, .pointer a1, .map a2, .map a3, .int .i64 0, .bool false, .map a4]) := by intros; kernel_rfl
theorem co_31 : codeOf Try.prog 31 = true := by kernel_rfl
theorem fo_65_3 : fieldOff Try.prog 65 3 = some 3 := by kernel_rfl
theorem ld_62 : aggSize Try.prog 62 = some none := by kernel_rfl
theorem co_32 : codeOf Try.prog 32 = true := by kernel_rfl
theorem bu_83_0_2 : ∀ (a0 : Int) (a1 : ByteArray), buildV Try.prog 83 [(0, .int .u8 a0), (2, .string a1)] = some (.agg #[.int .u8 a0, .int .i64 0, .string a1, .pointer none, .int .u8 0, .int .i64 0, .int .i64 0, .slice none 0 0, .int .u8 0, .int .i64 0, .pointer none]) := by intros; kernel_rfl
theorem co_33 : codeOf Try.prog 33 = true := by kernel_rfl
theorem co_34 : codeOf Try.prog 34 = true := by kernel_rfl
theorem fo_83_2 : fieldOff Try.prog 83 2 = some 2 := by kernel_rfl
theorem fo_65_2 : fieldOff Try.prog 65 2 = some 2 := by kernel_rfl
theorem ld_61 : aggSize Try.prog 61 = some none := by kernel_rfl
theorem co_37 : codeOf Try.prog 37 = true := by kernel_rfl
theorem co_36 : codeOf Try.prog 36 = true := by kernel_rfl
theorem co_35 : codeOf Try.prog 35 = true := by kernel_rfl
theorem co_38 : codeOf Try.prog 38 = true := by kernel_rfl
theorem fd_30_1 : ∀ (a0 : Int) (a1 : Int), partAt Try.prog 30 1 (.agg #[.int .u8 a0, .int .i64 a1]) = some (.int .i64 a1) := by intros; kernel_rfl
theorem co_39 : codeOf Try.prog 39 = true := by kernel_rfl
theorem co_40 : codeOf Try.prog 40 = true := by kernel_rfl
theorem bu_83_0_7 : ∀ (a0 : Int) (a1 : Int) (a2 : Int), buildV Try.prog 83 [(0, .int .u8 a0), (7, .agg #[.int .u8 a1, .int .i64 a2])] = some (.agg #[.int .u8 a0, .int .i64 0, .string ⟨#[]⟩, .pointer none, .int .u8 0, .int .i64 0, .int .i64 0, .slice none 0 0, .int .u8 a1, .int .i64 a2, .pointer none]) := by intros; kernel_rfl
theorem co_41 : codeOf Try.prog 41 = true := by kernel_rfl
theorem fo_83_0 : fieldOff Try.prog 83 0 = some 0 := by kernel_rfl
theorem fo_65_6 : fieldOff Try.prog 65 6 = some 6 := by kernel_rfl
theorem ld_63 : aggSize Try.prog 63 = some none := by kernel_rfl
theorem fo_65_1 : fieldOff Try.prog 65 1 = some 1 := by kernel_rfl
theorem ld_60 : aggSize Try.prog 60 = some none := by kernel_rfl
theorem co_42 : codeOf Try.prog 42 = true := by kernel_rfl
theorem co_43 : codeOf Try.prog 43 = true := by kernel_rfl
theorem bu_83_0_3 : ∀ (a0 : Int) (a1 : Option Addr), buildV Try.prog 83 [(0, .int .u8 a0), (3, .pointer a1)] = some (.agg #[.int .u8 a0, .int .i64 0, .string ⟨#[]⟩, .pointer a1, .int .u8 0, .int .i64 0, .int .i64 0, .slice none 0 0, .int .u8 0, .int .i64 0, .pointer none]) := by intros; kernel_rfl
theorem fo_83_3 : fieldOff Try.prog 83 3 = some 3 := by kernel_rfl
theorem ld_80 : aggSize Try.prog 80 = some none := by kernel_rfl
theorem co_44 : codeOf Try.prog 44 = true := by kernel_rfl
theorem fd_30_0 : ∀ (a0 : Int) (a1 : Int), partAt Try.prog 30 0 (.agg #[.int .u8 a0, .int .i64 a1]) = some (.int .u8 a0) := by intros; kernel_rfl
theorem co_45 : codeOf Try.prog 45 = true := by kernel_rfl
theorem fo_65_0 : fieldOff Try.prog 65 0 = some 0 := by kernel_rfl
theorem co_46 : codeOf Try.prog 46 = true := by kernel_rfl
theorem co_48 : codeOf Try.prog 48 = true := by kernel_rfl
theorem co_47 : codeOf Try.prog 47 = true := by kernel_rfl
theorem fo_83_7 : fieldOff Try.prog 83 7 = some 8 := by kernel_rfl
theorem bu_68_0 : ∀ (a0 : Option Addr), buildV Try.prog 68 [(0, .pointer a0)] = some (.agg #[.pointer a0, .int .i64 0, .int .i64 0, .map none, .slice none 0 0, .slice none 0 0]) := by intros; kernel_rfl
theorem co_49 : codeOf Try.prog 49 = true := by kernel_rfl
theorem fo_68_1 : fieldOff Try.prog 68 1 = some 1 := by kernel_rfl
theorem fo_68_4 : fieldOff Try.prog 68 4 = some 4 := by kernel_rfl
theorem ld_37 : aggSize Try.prog 37 = some none := by kernel_rfl
theorem co_50 : codeOf Try.prog 50 = true := by kernel_rfl
theorem co_51 : codeOf Try.prog 51 = true := by kernel_rfl
theorem fo_68_5 : fieldOff Try.prog 68 5 = some 5 := by kernel_rfl
theorem fo_68_0 : fieldOff Try.prog 68 0 = some 0 := by kernel_rfl
theorem ld_23 : aggSize Try.prog 23 = some none := by kernel_rfl
theorem co_52 : codeOf Try.prog 52 = true := by kernel_rfl
theorem fo_68_2 : fieldOff Try.prog 68 2 = some 2 := by kernel_rfl
theorem sz_3 : sizeT Try.prog 3 = some 1 := by kernel_rfl
theorem co_53 : codeOf Try.prog 53 = true := by kernel_rfl
theorem fo_68_3 : fieldOff Try.prog 68 3 = some 3 := by kernel_rfl
theorem ld_66 : aggSize Try.prog 66 = some none := by kernel_rfl
theorem sz_37 : sizeT Try.prog 37 = some 1 := by kernel_rfl
theorem sz_66 : sizeT Try.prog 66 = some 1 := by kernel_rfl
theorem co_54 : codeOf Try.prog 54 = true := by kernel_rfl
theorem co_55 : codeOf Try.prog 55 = true := by kernel_rfl
theorem fo_105_0 : fieldOff Try.prog 105 0 = some 0 := by kernel_rfl
theorem fo_105_1 : fieldOff Try.prog 105 1 = some 1 := by kernel_rfl
theorem ld_57 : aggSize Try.prog 57 = some none := by kernel_rfl
theorem bu_107_0_1 : ∀ (a0 : Bool) (a1 : Int), buildV Try.prog 107 [(0, .bool a0), (1, .int .i64 a1)] = some (.agg #[.bool a0, .int .i64 a1, .int .i64 0, .int .i64 0, .slice none 0 0, .slice none 0 0]) := by intros; kernel_rfl
theorem fo_65_5 : fieldOff Try.prog 65 5 = some 5 := by kernel_rfl
theorem ld_4 : aggSize Try.prog 4 = some none := by kernel_rfl
theorem co_56 : codeOf Try.prog 56 = true := by kernel_rfl
theorem fo_65_4 : fieldOff Try.prog 65 4 = some 4 := by kernel_rfl
theorem sz_2 : sizeT Try.prog 2 = some 1 := by kernel_rfl
theorem fo_83_1 : fieldOff Try.prog 83 1 = some 1 := by kernel_rfl
theorem co_57 : codeOf Try.prog 57 = true := by kernel_rfl
theorem el_86 : elemOf Try.prog 86 = some (none, 1) := by kernel_rfl
theorem co_58 : codeOf Try.prog 58 = true := by kernel_rfl
theorem co_59 : codeOf Try.prog 59 = true := by kernel_rfl
theorem ze_37 : zeroOf Try.prog 37 = some (.slice none 0 0) := by kernel_rfl
theorem co_60 : codeOf Try.prog 60 = true := by kernel_rfl
theorem fo_83_4 : fieldOff Try.prog 83 4 = some 4 := by kernel_rfl
theorem co_62 : codeOf Try.prog 62 = true := by kernel_rfl
theorem fo_83_6 : fieldOff Try.prog 83 6 = some 7 := by kernel_rfl
theorem fo_83_8 : fieldOff Try.prog 83 8 = some 10 := by kernel_rfl
theorem ld_81 : aggSize Try.prog 81 = some none := by kernel_rfl
theorem co_63 : codeOf Try.prog 63 = true := by kernel_rfl
theorem co_61 : codeOf Try.prog 61 = true := by kernel_rfl
theorem co_64 : codeOf Try.prog 64 = true := by kernel_rfl
theorem co_65 : codeOf Try.prog 65 = true := by kernel_rfl
theorem fo_107_2 : fieldOff Try.prog 107 2 = some 2 := by kernel_rfl
theorem fo_107_4 : fieldOff Try.prog 107 4 = some 4 := by kernel_rfl
theorem ld_86 : aggSize Try.prog 86 = some none := by kernel_rfl
theorem fo_107_3 : fieldOff Try.prog 107 3 = some 3 := by kernel_rfl
theorem fo_107_5 : fieldOff Try.prog 107 5 = some 5 := by kernel_rfl
theorem ez_86 : elemZeroOk Try.prog 86 = true := by kernel_rfl
theorem sz_86 : sizeT Try.prog 86 = some 1 := by kernel_rfl
theorem co_66 : codeOf Try.prog 66 = true := by kernel_rfl
theorem bu_116_1 : ∀ (a0 : Option Nat), buildV Try.prog 116 [(1, .map a0)] = some (.agg #[.slice none 0 0, .map a0]) := by intros; kernel_rfl
theorem co_67 : codeOf Try.prog 67 = true := by kernel_rfl
theorem fo_116_1 : fieldOff Try.prog 116 1 = some 1 := by kernel_rfl
theorem ld_113 : aggSize Try.prog 113 = some none := by kernel_rfl
theorem fo_116_0 : fieldOff Try.prog 116 0 = some 0 := by kernel_rfl
theorem ld_114 : aggSize Try.prog 114 = some none := by kernel_rfl
theorem el_114 : elemOf Try.prog 114 = some (none, 4) := by kernel_rfl
theorem fo_118_1 : fieldOff Try.prog 118 1 = some 2 := by kernel_rfl
theorem co_68 : codeOf Try.prog 68 = true := by kernel_rfl
theorem co_69 : codeOf Try.prog 69 = true := by kernel_rfl
theorem co_70 : codeOf Try.prog 70 = true := by kernel_rfl
theorem co_71 : codeOf Try.prog 71 = true := by kernel_rfl
theorem sz_114 : sizeT Try.prog 114 = some 1 := by kernel_rfl
theorem ld_118 : aggSize Try.prog 118 = some (some 4) := by kernel_rfl
theorem ze_118 : zeroOf Try.prog 118 = some (.agg #[(.int .u8 0), (.int .i64 0), (.int .u8 0), (.int .i64 0)]) := by kernel_rfl
theorem sz_118 : sizeT Try.prog 118 = some 4 := by kernel_rfl
theorem fo_118_0 : fieldOff Try.prog 118 0 = some 0 := by kernel_rfl
theorem bu_118_0_1 : ∀ (a0 : Int) (a1 : Int) (a2 : Int) (a3 : Int), buildV Try.prog 118 [(0, .agg #[.int .u8 a0, .int .i64 a1]), (1, .agg #[.int .u8 a2, .int .i64 a3])] = some (.agg #[.int .u8 a0, .int .i64 a1, .int .u8 a2, .int .i64 a3]) := by intros; kernel_rfl
theorem ez_114 : elemZeroOk Try.prog 114 = true := by kernel_rfl
theorem fo_107_1 : fieldOff Try.prog 107 1 = some 1 := by kernel_rfl
theorem co_72 : codeOf Try.prog 72 = true := by kernel_rfl
theorem sz_4 : sizeT Try.prog 4 = some 1 := by kernel_rfl
theorem co_73 : codeOf Try.prog 73 = true := by kernel_rfl
theorem co_74 : codeOf Try.prog 74 = true := by kernel_rfl
theorem bu_127_0 : ∀ (a0 : Option Addr), buildV Try.prog 127 [(0, .pointer a0)] = some (.agg #[.pointer a0, .int .i64 0, .int .i64 0, .slice none 0 0, .slice none 0 0, .slice none 0 0]) := by intros; kernel_rfl
theorem bu_105_0_1_2_3 : ∀ (a0 : Option Addr) (a1 : Option Addr) (a2 : Option Addr) (a3 : Option Addr), buildV Try.prog 105 [(0, .pointer a0), (1, .pointer a1), (2, .pointer a2), (3, .pointer a3)] = some (.agg #[.pointer a0, .pointer a1, .pointer a2, .pointer a3, .slice none 0 0]) := by intros; kernel_rfl
theorem co_75 : codeOf Try.prog 75 = true := by kernel_rfl
theorem co_77 : codeOf Try.prog 77 = true := by kernel_rfl
theorem co_76 : codeOf Try.prog 76 = true := by kernel_rfl
theorem fo_134_3 : fieldOff Try.prog 134 3 = some 3 := by kernel_rfl
theorem fo_134_2 : fieldOff Try.prog 134 2 = some 2 := by kernel_rfl
theorem fo_134_1 : fieldOff Try.prog 134 1 = some 1 := by kernel_rfl
theorem ld_132 : aggSize Try.prog 132 = some none := by kernel_rfl
theorem el_132 : elemOf Try.prog 132 = some (none, 13) := by kernel_rfl
theorem ld_141 : aggSize Try.prog 141 = some (some 13) := by kernel_rfl
theorem ze_141 : zeroOf Try.prog 141 = some (.agg #[(.int .u8 0), (.int .u8 0), (.int .i64 0), (.int .i64 0), (.int .i64 0), (.slice none 0 0), (.slice none 0 0), (.slice none 0 0), (.slice none 0 0), (.int .i64 0), (.slice none 0 0), (.bool false), (.int .i64 0)]) := by kernel_rfl
theorem sz_141 : sizeT Try.prog 141 = some 13 := by kernel_rfl
theorem fo_141_1 : fieldOff Try.prog 141 1 = some 1 := by kernel_rfl
theorem ld_139 : aggSize Try.prog 139 = some (some 12) := by kernel_rfl
theorem ze_139 : zeroOf Try.prog 139 = some (.agg #[(.int .u8 0), (.int .i64 0), (.int .i64 0), (.int .i64 0), (.slice none 0 0), (.slice none 0 0), (.slice none 0 0), (.slice none 0 0), (.int .i64 0), (.slice none 0 0), (.bool false), (.int .i64 0)]) := by kernel_rfl
theorem sz_139 : sizeT Try.prog 139 = some 12 := by kernel_rfl
theorem fo_139_2 : fieldOff Try.prog 139 2 = some 2 := by kernel_rfl
theorem fo_139_4 : fieldOff Try.prog 139 4 = some 4 := by kernel_rfl
theorem fo_139_5 : fieldOff Try.prog 139 5 = some 5 := by kernel_rfl
theorem fo_139_7 : fieldOff Try.prog 139 7 = some 7 := by kernel_rfl
theorem fo_139_9 : fieldOff Try.prog 139 9 = some 9 := by kernel_rfl
theorem el_142 : elemOf Try.prog 142 = some (none, 1) := by kernel_rfl
theorem fo_107_0 : fieldOff Try.prog 107 0 = some 0 := by kernel_rfl
theorem co_78 : codeOf Try.prog 78 = true := by kernel_rfl
theorem co_79 : codeOf Try.prog 79 = true := by kernel_rfl
theorem bu_146_0 : ∀ (a0 : Int), buildV Try.prog 146 [(0, .int .i64 a0)] = some (.agg #[.int .i64 a0, .slice none 0 0, .int .i64 0, .bool false]) := by intros; kernel_rfl
theorem ze_3 : zeroOf Try.prog 3 = some (.int .i64 0) := by kernel_rfl
theorem co_80 : codeOf Try.prog 80 = true := by kernel_rfl
theorem co_81 : codeOf Try.prog 81 = true := by kernel_rfl
theorem co_82 : codeOf Try.prog 82 = true := by kernel_rfl
theorem co_83 : codeOf Try.prog 83 = true := by kernel_rfl
theorem co_84 : codeOf Try.prog 84 = true := by kernel_rfl
theorem co_85 : codeOf Try.prog 85 = true := by kernel_rfl
theorem co_86 : codeOf Try.prog 86 = true := by kernel_rfl
theorem co_87 : codeOf Try.prog 87 = true := by kernel_rfl
theorem co_88 : codeOf Try.prog 88 = true := by kernel_rfl
theorem co_89 : codeOf Try.prog 89 = true := by kernel_rfl
theorem co_90 : codeOf Try.prog 90 = true := by kernel_rfl
theorem co_91 : codeOf Try.prog 91 = true := by kernel_rfl
theorem co_92 : codeOf Try.prog 92 = true := by kernel_rfl
theorem ze_159 : zeroOf Try.prog 159 = some (.int .u64 0) := by kernel_rfl
theorem sz_159 : sizeT Try.prog 159 = some 1 := by kernel_rfl
theorem co_93 : codeOf Try.prog 93 = true := by kernel_rfl
theorem co_94 : codeOf Try.prog 94 = true := by kernel_rfl
theorem co_95 : codeOf Try.prog 95 = true := by kernel_rfl
theorem co_96 : codeOf Try.prog 96 = true := by kernel_rfl
theorem co_97 : codeOf Try.prog 97 = true := by kernel_rfl
theorem ld_159 : aggSize Try.prog 159 = some none := by kernel_rfl
theorem co_98 : codeOf Try.prog 98 = true := by kernel_rfl
def fs_6 := PLift.up (And.intro (fun a c => calleeV_func _ a c co_30) @bu_65_0_1_2_3_6)
def fs_12 := PLift.up (And.intro (And.intro (And.intro (fun i o H => @aLoad_agg _ _ _ i o H ld_30) @ze_30) (And.intro (fun a c => calleeV_func _ a c co_31) @bu_30_)) (And.intro (And.intro (fun i o H v => @aStore_at _ _ _ i o H v sz_30) (fun a c => calleeV_func _ a c co_40)) (And.intro @bu_83_0_7 (fun a c => calleeV_func _ a c co_33))))
def fs_16 := PLift.up (And.intro (And.intro (And.intro (fun a c => calleeV_func _ a c co_31) (fun i o H => @aLoad_agg _ _ _ i o H ld_30)) (And.intro (fun a c => calleeV_func _ a c co_34) (And.intro (fun cx => @b_eql_ptr _ _ _ cx Try.underlying79) (fun a c => calleeV_func _ a c co_40)))) (And.intro (And.intro @fo_83_7 (fun i o H v => @aStore_at _ _ _ i o H v sz_30)) (And.intro @fo_30_1 (And.intro (fun i o H => @aLoad_one _ _ i o H ld_2) (fun a c => calleeV_func _ a c co_32)))))
def fs_17 := PLift.up (And.intro (And.intro (fun i o H => @aLoad_agg _ _ _ i o H ld_30) (And.intro @ze_30 (fun a c => calleeV_func _ a c co_34))) (And.intro (And.intro (fun cx => @b_neq_ptr _ _ _ cx Try.underlying79) @fo_83_7) (And.intro (fun i o H v => @aStore_at _ _ _ i o H v sz_30) @bu_30_)))
def fs_19 := PLift.up (And.intro (fun i o H => @aLoad_agg _ _ _ i o H ld_30) (And.intro (fun a c => calleeV_func _ a c co_41) (fun cx => @b_neq_ptr _ _ _ cx Try.underlying79)))
def fs_20 := PLift.up (And.intro (And.intro (fun a c => calleeV_func _ a c co_31) @fo_65_1) (And.intro (fun i o H => @aLoad_one _ _ i o H ld_60) (fun a c => calleeV_func _ a c co_45)))
def fs_21 := PLift.up (And.intro (fun a c => calleeV_func _ a c co_31) (And.intro @fo_65_0 (fun i o H => @aLoad_one _ _ i o H ld_3)))
def fs_30 := PLift.up @bu_107_0_1
def fs_31 := PLift.up (And.intro (And.intro (fun cx => @b_neq_ptr _ _ _ cx Try.underlying23) @fo_65_2) (And.intro (fun i o H => @aLoad_one _ _ i o H ld_61) (fun cx => @b_neq_map _ _ _ _ cx Try.underlying61)))
def fs_32 := PLift.up (And.intro (And.intro @fo_65_5 (fun i o H => @aLoad_one _ _ i o H ld_4)) (And.intro @fo_65_6 (fun i o H => @aLoad_one _ _ i o H ld_63)))
def fs_33 := PLift.up (And.intro (And.intro (And.intro (And.intro (fun i o H => @aLoad_agg _ _ _ i o H ld_30) @ze_30) (And.intro @fo_65_1 (And.intro (fun i o H => @aLoad_one _ _ i o H ld_60) (fun a c => calleeV_func _ a c co_45)))) (And.intro (And.intro @fo_65_0 (fun i o H => @aLoad_one _ _ i o H ld_3)) (And.intro @bu_30_ (And.intro (fun i o H v => @aStore_at _ _ _ i o H v sz_30) (fun a c => calleeV_func _ a c co_56))))) (And.intro (And.intro (And.intro @fo_83_0 (fun i o H => @aLoad_one _ _ i o H ld_28)) (And.intro @fo_65_4 (And.intro (fun i o H => @aLoad_one _ _ i o H ld_2) (fun i o H v => @aStore_at _ _ _ i o H v sz_2)))) (And.intro (And.intro @fo_83_1 @fo_65_2) (And.intro (fun i o H => @aLoad_one _ _ i o H ld_61) (And.intro (fun a c => calleeV_func _ a c co_32) @bu_30_0_1)))))
def fs_34 := PLift.up (And.intro (And.intro @fo_30_0 (fun i o H => @aLoad_one _ _ i o H ld_28)) (And.intro (fun i o H => @aLoad_agg _ _ _ i o H ld_30) (fun a c => calleeV_func _ a c co_41)))
def fs_35 := PLift.up (And.intro (And.intro (And.intro (fun a c => calleeV_func _ a c co_57) (fun H ty c => @lenV_slice _ H ty _ _ c Try.underlying86)) (And.intro (fun c r f H R d ty p af g x y => @st_indexAddr _ c r f H R d ty p af g _ x y _ el_86) (And.intro (fun i o H => @aLoad_one _ _ i o H ld_3) @fo_65_2))) (And.intro (And.intro (fun i o H => @aLoad_one _ _ i o H ld_61) @fo_83_0) (And.intro (fun i o H => @aLoad_one _ _ i o H ld_28) (And.intro @bu_30_0_1 (fun c r f H R d ty p af g x y u => @st_append _ c r f H R d ty p af g x y _ u ez_37)))))
def fs_40 := PLift.up (And.intro (And.intro (And.intro @fo_30_0 (fun i o H => @aLoad_one _ _ i o H ld_28)) (And.intro @fo_30_1 (fun i o H => @aLoad_one _ _ i o H ld_2))) (And.intro (And.intro (fun i o H => @aLoad_agg _ _ _ i o H ld_30) (fun a c => calleeV_func _ a c co_61)) (And.intro (fun a c => calleeV_func _ a c co_41) (fun cx => @b_neq_ptr _ _ _ cx Try.underlying79))))
def fs_41 := PLift.up (And.intro (And.intro (And.intro (fun a c => calleeV_func _ a c co_31) (fun i o H => @aLoad_agg _ _ _ i o H ld_30)) (And.intro (fun a c => calleeV_func _ a c co_61) (And.intro @fo_65_2 (fun i o H => @aLoad_one _ _ i o H ld_61)))) (And.intro (And.intro @fo_30_1 (And.intro (fun i o H => @aLoad_one _ _ i o H ld_2) (fun cx => @b_neq_ptr _ _ _ cx Try.underlying79))) (And.intro @fo_83_0 (And.intro (fun i o H => @aLoad_one _ _ i o H ld_28) @fo_30_0))))
def fs_42 := PLift.up (And.intro (And.intro (And.intro (fun a c => calleeV_func _ a c co_64) (And.intro (fun a c => calleeV_func _ a c co_65) @fo_107_2)) (And.intro (fun i o H => @aLoad_one _ _ i o H ld_3) (And.intro @fo_107_4 (fun i o H => @aLoad_one _ _ i o H ld_86)))) (And.intro (And.intro (fun c r f H R d ty p af g x y => @st_indexAddr _ c r f H R d ty p af g _ x y _ el_86) (And.intro (fun i o H v => @aStore_at _ _ _ i o H v sz_3) @fo_107_3)) (And.intro (And.intro @fo_107_5 (fun c r f H R d ty p af g x y u => @st_append _ c r f H R d ty p af g x y _ u ez_86)) (And.intro (fun i o H v => @aStore_at _ _ _ i o H v sz_86) (fun a c => calleeV_func _ a c co_66)))))
def fs_45 := PLift.up (And.intro (fun a c => calleeV_func _ a c co_64) (And.intro @fo_107_2 (fun i o H => @aLoad_one _ _ i o H ld_3)))
def fs_47 := PLift.up (And.intro (And.intro (And.intro (fun a c => calleeV_func _ a c co_64) (fun a c => calleeV_func _ a c co_65)) (And.intro @fo_107_1 (fun i o H => @aLoad_one _ _ i o H ld_3))) (And.intro (And.intro @fo_107_2 @fo_107_4) (And.intro (fun i o H => @aLoad_one _ _ i o H ld_86) (And.intro (fun c r f H R d ty p af g x y => @st_indexAddr _ c r f H R d ty p af g _ x y _ el_86) (fun i o H v => @aStore_at _ _ _ i o H v sz_3)))))
def fs_56 := PLift.up (And.intro (And.intro (And.intro (fun a c => calleeV_func _ a c co_64) (And.intro @fo_107_1 (fun i o H => @aLoad_one _ _ i o H ld_3))) (And.intro (And.intro @fo_107_2 @fo_107_3) (And.intro (fun i o H v => @aStore_at _ _ _ i o H v sz_3) @fo_107_5))) (And.intro (And.intro (fun i o H => @aLoad_one _ _ i o H ld_86) (And.intro (fun H ty c => @lenV_slice _ H ty _ _ c Try.underlying86) @fo_107_4)) (And.intro (And.intro (fun c r f H R d ty p af g x y u => @st_append _ c r f H R d ty p af g x y _ u ez_86) (fun i o H v => @aStore_at _ _ _ i o H v sz_86)) (And.intro (fun a c => calleeV_func _ a c co_75) (fun c r f H R d ty p af g x y => @st_indexAddr _ c r f H R d ty p af g _ x y _ el_86)))))
def fs_61 := PLift.up (And.intro @fo_30_0 (fun i o H => @aLoad_one _ _ i o H ld_28))
def fs_64 := PLift.up (And.intro (fun cx => @b_eql_ptr _ _ _ cx Try.underlying60) (And.intro @fo_107_0 (fun i o H => @aLoad_one _ _ i o H ld_4)))
def fs_65 := PLift.up (And.intro (And.intro @fo_107_4 (fun i o H => @aLoad_one _ _ i o H ld_86)) (And.intro (fun H ty c => @lenV_slice _ H ty _ _ c Try.underlying86) (And.intro (fun c r f H R d ty p af g x y => @st_indexAddr _ c r f H R d ty p af g _ x y _ el_86) (fun i o H => @aLoad_one _ _ i o H ld_3))))
def fs_66 := PLift.up (And.intro (And.intro @fo_107_5 (And.intro (fun i o H => @aLoad_one _ _ i o H ld_86) (fun H ty c => @lenV_slice _ H ty _ _ c Try.underlying86))) (And.intro (fun c r f H R d ty p af g x y => @st_indexAddr _ c r f H R d ty p af g _ x y _ el_86) (And.intro (fun i o H => @aLoad_one _ _ i o H ld_3) (fun i o H v => @aStore_at _ _ _ i o H v sz_3))))
def fs_74 := PLift.up @bu_146_0
def fs_75 := PLift.up (And.intro (And.intro (And.intro (fun i o H => @aLoad_one _ _ i o H ld_60) @fo_107_5) (And.intro (fun i o H => @aLoad_one _ _ i o H ld_86) (And.intro (fun c r f H R d ty p af g x y => @st_indexAddr _ c r f H R d ty p af g _ x y _ el_86) (fun i o H => @aLoad_one _ _ i o H ld_3)))) (And.intro (And.intro (fun H ty c => @lenV_slice _ H ty _ _ c Try.underlying86) @ze_3) (And.intro (fun i o H v => @aStore_at _ _ _ i o H v sz_3) (And.intro (fun i o H v => @aStore_at _ _ _ i o H v sz_86) (fun a c => calleeV_func _ a c co_80)))))
def fs_80 := PLift.up (And.intro (And.intro (fun i o H => @aLoad_one _ _ i o H ld_3) (fun i o H => @aLoad_one _ _ i o H ld_60)) (And.intro @fo_107_5 (And.intro (fun i o H => @aLoad_one _ _ i o H ld_86) (fun c r f H R d ty p af g x y => @st_indexAddr _ c r f H R d ty p af g _ x y _ el_86))))
end Go.Proofs.Ytckgdalbdeeimaa
