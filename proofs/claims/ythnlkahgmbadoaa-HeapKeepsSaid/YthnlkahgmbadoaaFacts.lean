/- Facts on the types of the program's functions, each reckoned by the kernel. Written by a program. -/
import Derived.Test.YthnlkahgmbadoaaProg
import Derived.Test.YthnlkahgmbadoaaAmGo
import Derived.KernelRfl
namespace Go.Proofs.Ythnlkahgmbadoaa
open Go.RowKit
theorem co_5 : codeOf Try.prog 5 = true := by kernel_rfl
theorem el_22 : elemOf Try.prog 22 = some (none, 1) := by kernel_rfl
theorem ld_9 : aggSize Try.prog 9 = some none := by kernel_rfl
theorem co_6 : codeOf Try.prog 6 = true := by kernel_rfl
theorem ze_30 : zeroOf Try.prog 30 = some (.agg #[(.int .u8 0), (.int .i64 0)]) := by kernel_rfl
theorem sz_30 : sizeT Try.prog 30 = some 2 := by kernel_rfl
theorem ld_30 : aggSize Try.prog 30 = some (some 2) := by kernel_rfl
theorem co_7 : codeOf Try.prog 7 = true := by kernel_rfl
theorem fo_30_1 : fieldOff Try.prog 30 1 = some 1 := by kernel_rfl
theorem ld_2 : aggSize Try.prog 2 = some none := by kernel_rfl
theorem co_8 : codeOf Try.prog 8 = true := by kernel_rfl
theorem co_9 : codeOf Try.prog 9 = true := by kernel_rfl
theorem bu_30_0_1 : ∀ (a0 : Int) (a1 : Int), buildV Try.prog 30 [(0, .int .u8 a0), (1, .int .i64 a1)] = some (.agg #[.int .u8 a0, .int .i64 a1]) := by intros; kernel_rfl
theorem el_41 : elemOf Try.prog 41 = some (none, 6) := by kernel_rfl
theorem ld_44 : aggSize Try.prog 44 = some (some 6) := by kernel_rfl
theorem ze_44 : zeroOf Try.prog 44 = some (.agg #[(.int .i64 0), (.int .i64 0), (.int .i64 0), (.int .i64 0), (.int .i64 0), (.string ⟨#[]⟩)]) := by kernel_rfl
theorem sz_44 : sizeT Try.prog 44 = some 6 := by kernel_rfl
theorem bu_30_ : buildV Try.prog 30 [] = some (.agg #[.int .u8 0, .int .i64 0]) := by kernel_rfl
theorem fo_44_1 : fieldOff Try.prog 44 1 = some 1 := by kernel_rfl
theorem ld_3 : aggSize Try.prog 3 = some none := by kernel_rfl
theorem co_10 : codeOf Try.prog 10 = true := by kernel_rfl
theorem el_37 : elemOf Try.prog 37 = some (none, 2) := by kernel_rfl
theorem fo_44_0 : fieldOff Try.prog 44 0 = some 0 := by kernel_rfl
theorem co_11 : codeOf Try.prog 11 = true := by kernel_rfl
theorem co_12 : codeOf Try.prog 12 = true := by kernel_rfl
theorem co_13 : codeOf Try.prog 13 = true := by kernel_rfl
theorem co_14 : codeOf Try.prog 14 = true := by kernel_rfl
theorem ez_37 : elemZeroOk Try.prog 37 = true := by kernel_rfl
theorem fo_30_0 : fieldOff Try.prog 30 0 = some 0 := by kernel_rfl
theorem ld_28 : aggSize Try.prog 28 = some none := by kernel_rfl
theorem co_15 : codeOf Try.prog 15 = true := by kernel_rfl
theorem co_16 : codeOf Try.prog 16 = true := by kernel_rfl
theorem co_17 : codeOf Try.prog 17 = true := by kernel_rfl
theorem co_18 : codeOf Try.prog 18 = true := by kernel_rfl
theorem co_19 : codeOf Try.prog 19 = true := by kernel_rfl
theorem co_20 : codeOf Try.prog 20 = true := by kernel_rfl
theorem co_21 : codeOf Try.prog 21 = true := by kernel_rfl
theorem bu_64_0_1_2_3_6 : ∀ (a0 : Int) (a1 : Option Addr) (a2 : Option Nat) (a3 : Option Nat) (a4 : Option Nat), buildV Try.prog 64 [(0, .int .i64 a0), (1, .pointer a1), (2, .map a2), (3, .map a3), (6, .map a4)] = some (.agg #[.int .i64 a0, .pointer a1, .map a2, .map a3, .int .i64 0, .bool false, .map a4]) := by intros; kernel_rfl
theorem co_22 : codeOf Try.prog 22 = true := by kernel_rfl
theorem fo_64_3 : fieldOff Try.prog 64 3 = some 3 := by kernel_rfl
theorem ld_61 : aggSize Try.prog 61 = some none := by kernel_rfl
theorem co_23 : codeOf Try.prog 23 = true := by kernel_rfl
theorem bu_72_0_2 : ∀ (a0 : Int) (a1 : ByteArray), buildV Try.prog 72 [(0, .int .u8 a0), (2, .string a1)] = some (.agg #[.int .u8 a0, .int .i64 0, .string a1, .pointer none, .int .u8 0, .int .i64 0, .int .i64 0, .slice none 0 0, .int .u8 0, .int .i64 0, .pointer none]) := by intros; kernel_rfl
theorem co_24 : codeOf Try.prog 24 = true := by kernel_rfl
theorem co_25 : codeOf Try.prog 25 = true := by kernel_rfl
theorem fo_72_2 : fieldOff Try.prog 72 2 = some 2 := by kernel_rfl
theorem fo_64_2 : fieldOff Try.prog 64 2 = some 2 := by kernel_rfl
theorem ld_60 : aggSize Try.prog 60 = some none := by kernel_rfl
theorem co_28 : codeOf Try.prog 28 = true := by kernel_rfl
theorem co_27 : codeOf Try.prog 27 = true := by kernel_rfl
theorem co_26 : codeOf Try.prog 26 = true := by kernel_rfl
theorem co_29 : codeOf Try.prog 29 = true := by kernel_rfl
theorem fd_30_1 : ∀ (a0 : Int) (a1 : Int), partAt Try.prog 30 1 (.agg #[.int .u8 a0, .int .i64 a1]) = some (.int .i64 a1) := by intros; kernel_rfl
theorem co_30 : codeOf Try.prog 30 = true := by kernel_rfl
theorem co_31 : codeOf Try.prog 31 = true := by kernel_rfl
theorem bu_72_0_7 : ∀ (a0 : Int) (a1 : Int) (a2 : Int), buildV Try.prog 72 [(0, .int .u8 a0), (7, .agg #[.int .u8 a1, .int .i64 a2])] = some (.agg #[.int .u8 a0, .int .i64 0, .string ⟨#[]⟩, .pointer none, .int .u8 0, .int .i64 0, .int .i64 0, .slice none 0 0, .int .u8 a1, .int .i64 a2, .pointer none]) := by intros; kernel_rfl
theorem co_32 : codeOf Try.prog 32 = true := by kernel_rfl
theorem fo_72_0 : fieldOff Try.prog 72 0 = some 0 := by kernel_rfl
theorem fo_64_6 : fieldOff Try.prog 64 6 = some 6 := by kernel_rfl
theorem ld_62 : aggSize Try.prog 62 = some none := by kernel_rfl
theorem fo_64_1 : fieldOff Try.prog 64 1 = some 1 := by kernel_rfl
theorem ld_57 : aggSize Try.prog 57 = some none := by kernel_rfl
theorem co_33 : codeOf Try.prog 33 = true := by kernel_rfl
theorem co_34 : codeOf Try.prog 34 = true := by kernel_rfl
theorem bu_72_0_3 : ∀ (a0 : Int) (a1 : Option Addr), buildV Try.prog 72 [(0, .int .u8 a0), (3, .pointer a1)] = some (.agg #[.int .u8 a0, .int .i64 0, .string ⟨#[]⟩, .pointer a1, .int .u8 0, .int .i64 0, .int .i64 0, .slice none 0 0, .int .u8 0, .int .i64 0, .pointer none]) := by intros; kernel_rfl
theorem fo_72_3 : fieldOff Try.prog 72 3 = some 3 := by kernel_rfl
theorem ld_69 : aggSize Try.prog 69 = some none := by kernel_rfl
theorem co_35 : codeOf Try.prog 35 = true := by kernel_rfl
theorem fd_30_0 : ∀ (a0 : Int) (a1 : Int), partAt Try.prog 30 0 (.agg #[.int .u8 a0, .int .i64 a1]) = some (.int .u8 a0) := by intros; kernel_rfl
theorem co_36 : codeOf Try.prog 36 = true := by kernel_rfl
theorem fo_64_0 : fieldOff Try.prog 64 0 = some 0 := by kernel_rfl
theorem co_37 : codeOf Try.prog 37 = true := by kernel_rfl
theorem co_39 : codeOf Try.prog 39 = true := by kernel_rfl
theorem co_38 : codeOf Try.prog 38 = true := by kernel_rfl
theorem fo_72_7 : fieldOff Try.prog 72 7 = some 8 := by kernel_rfl
theorem bu_88_0_1 : ∀ (a0 : Bool) (a1 : Int), buildV Try.prog 88 [(0, .bool a0), (1, .int .i64 a1)] = some (.agg #[.bool a0, .int .i64 a1, .int .i64 0, .int .i64 0, .slice none 0 0, .slice none 0 0]) := by intros; kernel_rfl
theorem fo_64_5 : fieldOff Try.prog 64 5 = some 5 := by kernel_rfl
theorem ld_4 : aggSize Try.prog 4 = some none := by kernel_rfl
theorem co_40 : codeOf Try.prog 40 = true := by kernel_rfl
theorem fo_64_4 : fieldOff Try.prog 64 4 = some 4 := by kernel_rfl
theorem sz_2 : sizeT Try.prog 2 = some 1 := by kernel_rfl
theorem fo_72_1 : fieldOff Try.prog 72 1 = some 1 := by kernel_rfl
theorem co_41 : codeOf Try.prog 41 = true := by kernel_rfl
theorem el_75 : elemOf Try.prog 75 = some (none, 1) := by kernel_rfl
theorem co_42 : codeOf Try.prog 42 = true := by kernel_rfl
theorem co_43 : codeOf Try.prog 43 = true := by kernel_rfl
theorem ze_37 : zeroOf Try.prog 37 = some (.slice none 0 0) := by kernel_rfl
theorem co_44 : codeOf Try.prog 44 = true := by kernel_rfl
theorem fo_72_4 : fieldOff Try.prog 72 4 = some 4 := by kernel_rfl
theorem co_46 : codeOf Try.prog 46 = true := by kernel_rfl
theorem fo_72_6 : fieldOff Try.prog 72 6 = some 7 := by kernel_rfl
theorem ld_37 : aggSize Try.prog 37 = some none := by kernel_rfl
theorem fo_72_8 : fieldOff Try.prog 72 8 = some 10 := by kernel_rfl
theorem ld_70 : aggSize Try.prog 70 = some none := by kernel_rfl
theorem co_47 : codeOf Try.prog 47 = true := by kernel_rfl
theorem co_45 : codeOf Try.prog 45 = true := by kernel_rfl
theorem co_48 : codeOf Try.prog 48 = true := by kernel_rfl
theorem co_49 : codeOf Try.prog 49 = true := by kernel_rfl
theorem fo_88_2 : fieldOff Try.prog 88 2 = some 2 := by kernel_rfl
theorem fo_88_4 : fieldOff Try.prog 88 4 = some 4 := by kernel_rfl
theorem ld_75 : aggSize Try.prog 75 = some none := by kernel_rfl
theorem sz_3 : sizeT Try.prog 3 = some 1 := by kernel_rfl
theorem fo_88_3 : fieldOff Try.prog 88 3 = some 3 := by kernel_rfl
theorem fo_88_5 : fieldOff Try.prog 88 5 = some 5 := by kernel_rfl
theorem ez_75 : elemZeroOk Try.prog 75 = true := by kernel_rfl
theorem sz_75 : sizeT Try.prog 75 = some 1 := by kernel_rfl
theorem co_50 : codeOf Try.prog 50 = true := by kernel_rfl
theorem bu_99_1 : ∀ (a0 : Option Nat), buildV Try.prog 99 [(1, .map a0)] = some (.agg #[.slice none 0 0, .map a0]) := by intros; kernel_rfl
theorem co_51 : codeOf Try.prog 51 = true := by kernel_rfl
theorem fo_99_1 : fieldOff Try.prog 99 1 = some 1 := by kernel_rfl
theorem ld_96 : aggSize Try.prog 96 = some none := by kernel_rfl
theorem fo_99_0 : fieldOff Try.prog 99 0 = some 0 := by kernel_rfl
theorem ld_97 : aggSize Try.prog 97 = some none := by kernel_rfl
theorem el_97 : elemOf Try.prog 97 = some (none, 4) := by kernel_rfl
theorem fo_101_1 : fieldOff Try.prog 101 1 = some 2 := by kernel_rfl
theorem co_52 : codeOf Try.prog 52 = true := by kernel_rfl
theorem co_53 : codeOf Try.prog 53 = true := by kernel_rfl
theorem co_54 : codeOf Try.prog 54 = true := by kernel_rfl
theorem co_55 : codeOf Try.prog 55 = true := by kernel_rfl
theorem sz_97 : sizeT Try.prog 97 = some 1 := by kernel_rfl
theorem ld_101 : aggSize Try.prog 101 = some (some 4) := by kernel_rfl
theorem ze_101 : zeroOf Try.prog 101 = some (.agg #[(.int .u8 0), (.int .i64 0), (.int .u8 0), (.int .i64 0)]) := by kernel_rfl
theorem sz_101 : sizeT Try.prog 101 = some 4 := by kernel_rfl
theorem fo_101_0 : fieldOff Try.prog 101 0 = some 0 := by kernel_rfl
theorem bu_101_0_1 : ∀ (a0 : Int) (a1 : Int) (a2 : Int) (a3 : Int), buildV Try.prog 101 [(0, .agg #[.int .u8 a0, .int .i64 a1]), (1, .agg #[.int .u8 a2, .int .i64 a3])] = some (.agg #[.int .u8 a0, .int .i64 a1, .int .u8 a2, .int .i64 a3]) := by intros; kernel_rfl
theorem ez_97 : elemZeroOk Try.prog 97 = true := by kernel_rfl
theorem fo_88_1 : fieldOff Try.prog 88 1 = some 1 := by kernel_rfl
theorem co_56 : codeOf Try.prog 56 = true := by kernel_rfl
theorem co_58 : codeOf Try.prog 58 = true := by kernel_rfl
theorem co_57 : codeOf Try.prog 57 = true := by kernel_rfl
theorem sz_37 : sizeT Try.prog 37 = some 1 := by kernel_rfl
theorem fo_111_3 : fieldOff Try.prog 111 3 = some 3 := by kernel_rfl
theorem fo_111_2 : fieldOff Try.prog 111 2 = some 2 := by kernel_rfl
theorem fo_111_1 : fieldOff Try.prog 111 1 = some 1 := by kernel_rfl
theorem ld_109 : aggSize Try.prog 109 = some none := by kernel_rfl
theorem el_109 : elemOf Try.prog 109 = some (none, 13) := by kernel_rfl
theorem ld_118 : aggSize Try.prog 118 = some (some 13) := by kernel_rfl
theorem ze_118 : zeroOf Try.prog 118 = some (.agg #[(.int .u8 0), (.int .u8 0), (.int .i64 0), (.int .i64 0), (.int .i64 0), (.slice none 0 0), (.slice none 0 0), (.slice none 0 0), (.slice none 0 0), (.int .i64 0), (.slice none 0 0), (.bool false), (.int .i64 0)]) := by kernel_rfl
theorem sz_118 : sizeT Try.prog 118 = some 13 := by kernel_rfl
theorem fo_118_1 : fieldOff Try.prog 118 1 = some 1 := by kernel_rfl
theorem ld_116 : aggSize Try.prog 116 = some (some 12) := by kernel_rfl
theorem ze_116 : zeroOf Try.prog 116 = some (.agg #[(.int .u8 0), (.int .i64 0), (.int .i64 0), (.int .i64 0), (.slice none 0 0), (.slice none 0 0), (.slice none 0 0), (.slice none 0 0), (.int .i64 0), (.slice none 0 0), (.bool false), (.int .i64 0)]) := by kernel_rfl
theorem sz_116 : sizeT Try.prog 116 = some 12 := by kernel_rfl
theorem fo_116_2 : fieldOff Try.prog 116 2 = some 2 := by kernel_rfl
theorem fo_116_4 : fieldOff Try.prog 116 4 = some 4 := by kernel_rfl
theorem fo_116_5 : fieldOff Try.prog 116 5 = some 5 := by kernel_rfl
theorem fo_116_7 : fieldOff Try.prog 116 7 = some 7 := by kernel_rfl
theorem fo_116_9 : fieldOff Try.prog 116 9 = some 9 := by kernel_rfl
theorem el_119 : elemOf Try.prog 119 = some (none, 1) := by kernel_rfl
theorem fo_88_0 : fieldOff Try.prog 88 0 = some 0 := by kernel_rfl
theorem co_59 : codeOf Try.prog 59 = true := by kernel_rfl
theorem ze_3 : zeroOf Try.prog 3 = some (.int .i64 0) := by kernel_rfl
theorem co_60 : codeOf Try.prog 60 = true := by kernel_rfl
theorem co_61 : codeOf Try.prog 61 = true := by kernel_rfl
theorem co_62 : codeOf Try.prog 62 = true := by kernel_rfl
theorem co_63 : codeOf Try.prog 63 = true := by kernel_rfl
theorem co_64 : codeOf Try.prog 64 = true := by kernel_rfl
theorem co_65 : codeOf Try.prog 65 = true := by kernel_rfl
theorem co_66 : codeOf Try.prog 66 = true := by kernel_rfl
theorem co_67 : codeOf Try.prog 67 = true := by kernel_rfl
theorem co_68 : codeOf Try.prog 68 = true := by kernel_rfl
theorem co_69 : codeOf Try.prog 69 = true := by kernel_rfl
theorem co_70 : codeOf Try.prog 70 = true := by kernel_rfl
theorem co_71 : codeOf Try.prog 71 = true := by kernel_rfl
theorem co_72 : codeOf Try.prog 72 = true := by kernel_rfl
theorem ze_133 : zeroOf Try.prog 133 = some (.int .u64 0) := by kernel_rfl
theorem sz_133 : sizeT Try.prog 133 = some 1 := by kernel_rfl
theorem co_73 : codeOf Try.prog 73 = true := by kernel_rfl
theorem co_74 : codeOf Try.prog 74 = true := by kernel_rfl
theorem co_75 : codeOf Try.prog 75 = true := by kernel_rfl
theorem co_76 : codeOf Try.prog 76 = true := by kernel_rfl
theorem co_77 : codeOf Try.prog 77 = true := by kernel_rfl
theorem ld_133 : aggSize Try.prog 133 = some none := by kernel_rfl
theorem co_78 : codeOf Try.prog 78 = true := by kernel_rfl
def fs_3 := PLift.up (And.intro (And.intro (And.intro (And.intro (fun a c => calleeV_func _ a c co_5) (fun H ty c => @lenV_slice _ H ty _ _ c Try.underlying22)) (And.intro (fun c r f H R d ty p af g x y => @st_indexAddr _ c r f H R d ty p af g _ x y _ el_22) (fun i o H => @aLoad_one _ _ i o H ld_9))) (And.intro (And.intro (fun H ty c => @lenV_string _ H ty _ c Try.underlying9) (fun a c => calleeV_func _ a c co_6)) (And.intro @ze_30 (fun i o H v => @aStore_at _ _ _ i o H v sz_30)))) (And.intro (And.intro (And.intro (fun i o H => @aLoad_agg _ _ _ i o H ld_30) (fun a c => calleeV_func _ a c co_7)) (And.intro @fo_30_1 (fun i o H => @aLoad_one _ _ i o H ld_2))) (And.intro (And.intro (fun a c => calleeV_func _ a c co_8) (fun H ty c => @lenV_slice _ H ty _ _ c Try.underlying37)) (And.intro (fun H ty c => @lenV_map0 _ H ty _ _ _ c Try.underlying27) (fun a c => calleeV_func _ a c co_9)))))
def fs_4 := PLift.up (And.intro (And.intro (And.intro (And.intro (And.intro (fun a c => calleeV_func _ a c co_5) @bu_30_0_1) (And.intro @ze_30 (fun i o H v => @aStore_at _ _ _ i o H v sz_30))) (And.intro (And.intro (fun H ty c => @lenV_slice _ H ty _ _ c Try.underlying41) (fun c r f H R d ty p af g x y => @st_indexAddr _ c r f H R d ty p af g _ x y _ el_41)) (And.intro (fun i o H => @aLoad_agg _ _ _ i o H ld_44) (And.intro @ze_44 (fun i o H v => @aStore_at _ _ _ i o H v sz_44))))) (And.intro (And.intro (And.intro @bu_30_ (fun H ty c => @lenV_slice _ H ty _ _ c Try.underlying37)) (And.intro @fo_44_1 (fun i o H => @aLoad_one _ _ i o H ld_3))) (And.intro (And.intro (fun a c => calleeV_func _ a c co_10) (fun c r f H R d ty p af g x y => @st_indexAddr _ c r f H R d ty p af g _ x y _ el_37)) (And.intro (fun i o H => @aLoad_agg _ _ _ i o H ld_30) (And.intro @fo_44_0 (fun a c => calleeV_func _ a c co_11)))))) (And.intro (And.intro (And.intro (And.intro (fun a c => calleeV_func _ a c co_12) (fun a c => calleeV_func _ a c co_13)) (And.intro (fun a c => calleeV_func _ a c co_14) @fo_30_1)) (And.intro (And.intro (fun i o H => @aLoad_one _ _ i o H ld_2) (fun c r f H R d ty p af g x y u => @st_append _ c r f H R d ty p af g x y _ u ez_37)) (And.intro @fo_30_0 (And.intro (fun i o H => @aLoad_one _ _ i o H ld_28) (fun a c => calleeV_func _ a c co_15))))) (And.intro (And.intro (And.intro (fun cx cy p q => @b_neqB _ _ cx cy p q Try.underlying4) (fun a c => calleeV_func _ a c co_16)) (And.intro (fun a c => calleeV_func _ a c co_17) (fun a c => calleeV_func _ a c co_18))) (And.intro (And.intro (fun a c => calleeV_func _ a c co_19) (fun a c => calleeV_func _ a c co_20)) (And.intro (fun a c => calleeV_func _ a c co_8) (And.intro (fun H ty c => @lenV_map0 _ H ty _ _ _ c Try.underlying42) (fun a c => calleeV_func _ a c co_9)))))))
def fs_5 := PLift.up (And.intro (fun a c => calleeV_func _ a c co_21) @bu_64_0_1_2_3_6)
def fs_6 := PLift.up (And.intro (And.intro (And.intro (fun i o H => @aLoad_agg _ _ _ i o H ld_30) (And.intro @ze_30 (fun a c => calleeV_func _ a c co_22))) (And.intro (And.intro @bu_30_ (fun i o H v => @aStore_at _ _ _ i o H v sz_30)) (And.intro (fun H ty c => @lenV_string _ H ty _ c Try.underlying9) @fo_64_3))) (And.intro (And.intro (fun i o H => @aLoad_one _ _ i o H ld_61) (And.intro (fun a c => calleeV_func _ a c co_23) @bu_30_0_1)) (And.intro (And.intro @bu_72_0_2 (fun a c => calleeV_func _ a c co_24)) (And.intro @fo_30_1 (fun i o H => @aLoad_one _ _ i o H ld_2)))))
def fs_7 := PLift.up (And.intro (And.intro (fun i o H => @aLoad_agg _ _ _ i o H ld_30) (fun a c => calleeV_func _ a c co_25)) (And.intro (fun cx => @b_neq_ptr _ _ _ cx Try.underlying68) (And.intro @fo_72_2 (fun i o H => @aLoad_one _ _ i o H ld_9))))
def fs_11 := PLift.up (And.intro (And.intro (And.intro (fun i o H => @aLoad_agg _ _ _ i o H ld_30) @ze_30) (And.intro (fun a c => calleeV_func _ a c co_22) @bu_30_)) (And.intro (And.intro (fun i o H v => @aStore_at _ _ _ i o H v sz_30) (fun a c => calleeV_func _ a c co_31)) (And.intro @bu_72_0_7 (fun a c => calleeV_func _ a c co_24))))
def fs_12 := PLift.up (And.intro (And.intro (And.intro (And.intro (fun a c => calleeV_func _ a c co_22) (fun i o H => @aLoad_agg _ _ _ i o H ld_30)) (And.intro (fun a c => calleeV_func _ a c co_32) (fun cx => @b_eql_ptr _ _ _ cx Try.underlying68))) (And.intro (And.intro @fo_30_1 (fun i o H => @aLoad_one _ _ i o H ld_2)) (And.intro @fo_72_0 (And.intro (fun i o H => @aLoad_one _ _ i o H ld_28) @fo_64_3)))) (And.intro (And.intro (And.intro (fun i o H => @aLoad_one _ _ i o H ld_61) @fo_72_2) (And.intro (fun i o H => @aLoad_one _ _ i o H ld_9) (And.intro @fo_64_2 (fun i o H => @aLoad_one _ _ i o H ld_60)))) (And.intro (And.intro @fo_64_6 (fun i o H => @aLoad_one _ _ i o H ld_62)) (And.intro @fo_64_1 (And.intro (fun i o H => @aLoad_one _ _ i o H ld_57) (fun a c => calleeV_func _ a c co_33))))))
def fs_13 := PLift.up (And.intro (And.intro (And.intro (fun i o H => @aLoad_agg _ _ _ i o H ld_30) @ze_30) (And.intro (fun a c => calleeV_func _ a c co_22) @bu_30_)) (And.intro (And.intro (fun i o H v => @aStore_at _ _ _ i o H v sz_30) (fun a c => calleeV_func _ a c co_34)) (And.intro @bu_72_0_3 (fun a c => calleeV_func _ a c co_24))))
def fs_14 := PLift.up (And.intro (And.intro (And.intro (And.intro (fun a c => calleeV_func _ a c co_22) (fun i o H => @aLoad_agg _ _ _ i o H ld_30)) (And.intro (fun a c => calleeV_func _ a c co_25) (And.intro (fun cx => @b_eql_ptr _ _ _ cx Try.underlying68) @fo_30_0))) (And.intro (And.intro (fun i o H => @aLoad_one _ _ i o H ld_28) (And.intro (fun a c => calleeV_func _ a c co_31) @fo_72_3)) (And.intro (fun i o H => @aLoad_one _ _ i o H ld_69) (And.intro (fun a c => calleeV_func _ a c co_35) @fd_30_0)))) (And.intro (And.intro (And.intro @fo_64_1 (fun i o H => @aLoad_one _ _ i o H ld_57)) (And.intro (fun a c => calleeV_func _ a c co_36) (And.intro @fo_64_0 (fun i o H => @aLoad_one _ _ i o H ld_3)))) (And.intro (And.intro (fun a c => calleeV_func _ a c co_37) (And.intro @fo_30_1 (fun i o H => @aLoad_one _ _ i o H ld_2))) (And.intro (fun a c => calleeV_func _ a c co_39) (And.intro (fun a c => calleeV_func _ a c co_38) (fun a c => calleeV_func _ a c co_23))))))
def fs_15 := PLift.up (And.intro (And.intro (And.intro (fun a c => calleeV_func _ a c co_22) (fun i o H => @aLoad_agg _ _ _ i o H ld_30)) (And.intro (fun a c => calleeV_func _ a c co_25) (And.intro (fun cx => @b_eql_ptr _ _ _ cx Try.underlying68) (fun a c => calleeV_func _ a c co_31)))) (And.intro (And.intro @fo_72_7 (fun i o H v => @aStore_at _ _ _ i o H v sz_30)) (And.intro @fo_30_1 (And.intro (fun i o H => @aLoad_one _ _ i o H ld_2) (fun a c => calleeV_func _ a c co_23)))))
def fs_16 := PLift.up (And.intro (And.intro (fun i o H => @aLoad_agg _ _ _ i o H ld_30) (And.intro @ze_30 (fun a c => calleeV_func _ a c co_25))) (And.intro (And.intro (fun cx => @b_neq_ptr _ _ _ cx Try.underlying68) @fo_72_7) (And.intro (fun i o H v => @aStore_at _ _ _ i o H v sz_30) @bu_30_)))
def fs_17 := PLift.up (And.intro (And.intro (And.intro (fun i o H => @aLoad_agg _ _ _ i o H ld_30) @ze_30) (And.intro (fun a c => calleeV_func _ a c co_25) (fun cx => @b_neq_ptr _ _ _ cx Try.underlying68))) (And.intro (And.intro @fo_72_3 (fun i o H => @aLoad_one _ _ i o H ld_69)) (And.intro (fun a c => calleeV_func _ a c co_35) (And.intro (fun i o H v => @aStore_at _ _ _ i o H v sz_30) @bu_30_))))
def fs_18 := PLift.up (And.intro (fun i o H => @aLoad_agg _ _ _ i o H ld_30) (And.intro (fun a c => calleeV_func _ a c co_32) (fun cx => @b_neq_ptr _ _ _ cx Try.underlying68)))
def fs_19 := PLift.up (And.intro (And.intro (fun a c => calleeV_func _ a c co_22) @fo_64_1) (And.intro (fun i o H => @aLoad_one _ _ i o H ld_57) (fun a c => calleeV_func _ a c co_36)))
def fs_20 := PLift.up (And.intro (fun a c => calleeV_func _ a c co_22) (And.intro @fo_64_0 (fun i o H => @aLoad_one _ _ i o H ld_3)))
def fs_21 := PLift.up @bu_88_0_1
def fs_22 := PLift.up (And.intro (And.intro (fun cx => @b_neq_ptr _ _ _ cx Try.underlying23) @fo_64_2) (And.intro (fun i o H => @aLoad_one _ _ i o H ld_60) (fun cx => @b_neq_map _ _ _ _ cx Try.underlying60)))
def fs_23 := PLift.up (And.intro (And.intro @fo_64_5 (fun i o H => @aLoad_one _ _ i o H ld_4)) (And.intro @fo_64_6 (fun i o H => @aLoad_one _ _ i o H ld_62)))
def fs_24 := PLift.up (And.intro (And.intro (And.intro (And.intro (fun i o H => @aLoad_agg _ _ _ i o H ld_30) @ze_30) (And.intro @fo_64_1 (And.intro (fun i o H => @aLoad_one _ _ i o H ld_57) (fun a c => calleeV_func _ a c co_36)))) (And.intro (And.intro @fo_64_0 (fun i o H => @aLoad_one _ _ i o H ld_3)) (And.intro @bu_30_ (And.intro (fun i o H v => @aStore_at _ _ _ i o H v sz_30) (fun a c => calleeV_func _ a c co_40))))) (And.intro (And.intro (And.intro @fo_72_0 (fun i o H => @aLoad_one _ _ i o H ld_28)) (And.intro @fo_64_4 (And.intro (fun i o H => @aLoad_one _ _ i o H ld_2) (fun i o H v => @aStore_at _ _ _ i o H v sz_2)))) (And.intro (And.intro @fo_72_1 @fo_64_2) (And.intro (fun i o H => @aLoad_one _ _ i o H ld_60) (And.intro (fun a c => calleeV_func _ a c co_23) @bu_30_0_1)))))
def fs_25 := PLift.up (And.intro (And.intro @fo_30_0 (fun i o H => @aLoad_one _ _ i o H ld_28)) (And.intro (fun i o H => @aLoad_agg _ _ _ i o H ld_30) (fun a c => calleeV_func _ a c co_32)))
def fs_26 := PLift.up (And.intro (And.intro (And.intro (fun a c => calleeV_func _ a c co_41) (fun H ty c => @lenV_slice _ H ty _ _ c Try.underlying75)) (And.intro (fun c r f H R d ty p af g x y => @st_indexAddr _ c r f H R d ty p af g _ x y _ el_75) (And.intro (fun i o H => @aLoad_one _ _ i o H ld_3) @fo_64_2))) (And.intro (And.intro (fun i o H => @aLoad_one _ _ i o H ld_60) @fo_72_0) (And.intro (fun i o H => @aLoad_one _ _ i o H ld_28) (And.intro @bu_30_0_1 (fun c r f H R d ty p af g x y u => @st_append _ c r f H R d ty p af g x y _ u ez_37)))))
def fs_29 := PLift.up (And.intro (And.intro (And.intro (And.intro (fun i o H => @aLoad_agg _ _ _ i o H ld_30) (fun a c => calleeV_func _ a c co_32)) (And.intro (fun cx => @b_eql_ptr _ _ _ cx Try.underlying68) @ze_37)) (And.intro (And.intro (fun a c => calleeV_func _ a c co_44) @fo_30_0) (And.intro (fun i o H => @aLoad_one _ _ i o H ld_28) @fo_72_4))) (And.intro (And.intro (And.intro @fo_72_3 (fun i o H => @aLoad_one _ _ i o H ld_69)) (And.intro (fun a c => calleeV_func _ a c co_46) @fo_72_6)) (And.intro (And.intro (fun i o H => @aLoad_one _ _ i o H ld_37) @fo_72_7) (And.intro @fo_72_8 (And.intro (fun i o H => @aLoad_one _ _ i o H ld_70) (fun a c => calleeV_func _ a c co_47))))))
def fs_30 := PLift.up (And.intro (And.intro (fun i o H => @aLoad_agg _ _ _ i o H ld_30) (fun a c => calleeV_func _ a c co_32)) (And.intro (fun cx => @b_neq_ptr _ _ _ cx Try.underlying68) (And.intro @fo_72_1 (fun i o H => @aLoad_one _ _ i o H ld_2))))
def fs_31 := PLift.up (And.intro (And.intro (And.intro @fo_30_0 (fun i o H => @aLoad_one _ _ i o H ld_28)) (And.intro @fo_30_1 (fun i o H => @aLoad_one _ _ i o H ld_2))) (And.intro (And.intro (fun i o H => @aLoad_agg _ _ _ i o H ld_30) (fun a c => calleeV_func _ a c co_45)) (And.intro (fun a c => calleeV_func _ a c co_32) (fun cx => @b_neq_ptr _ _ _ cx Try.underlying68))))
def fs_32 := PLift.up (And.intro (And.intro (And.intro (fun a c => calleeV_func _ a c co_22) (fun i o H => @aLoad_agg _ _ _ i o H ld_30)) (And.intro (fun a c => calleeV_func _ a c co_45) (And.intro @fo_64_2 (fun i o H => @aLoad_one _ _ i o H ld_60)))) (And.intro (And.intro @fo_30_1 (And.intro (fun i o H => @aLoad_one _ _ i o H ld_2) (fun cx => @b_neq_ptr _ _ _ cx Try.underlying68))) (And.intro @fo_72_0 (And.intro (fun i o H => @aLoad_one _ _ i o H ld_28) @fo_30_0))))
def fs_33 := PLift.up (And.intro (And.intro (And.intro (fun a c => calleeV_func _ a c co_48) (And.intro (fun a c => calleeV_func _ a c co_49) @fo_88_2)) (And.intro (fun i o H => @aLoad_one _ _ i o H ld_3) (And.intro @fo_88_4 (fun i o H => @aLoad_one _ _ i o H ld_75)))) (And.intro (And.intro (fun c r f H R d ty p af g x y => @st_indexAddr _ c r f H R d ty p af g _ x y _ el_75) (And.intro (fun i o H v => @aStore_at _ _ _ i o H v sz_3) @fo_88_3)) (And.intro (And.intro @fo_88_5 (fun c r f H R d ty p af g x y u => @st_append _ c r f H R d ty p af g x y _ u ez_75)) (And.intro (fun i o H v => @aStore_at _ _ _ i o H v sz_75) (fun a c => calleeV_func _ a c co_50)))))
def fs_34 := PLift.up @bu_99_1
def fs_36 := PLift.up (And.intro (fun a c => calleeV_func _ a c co_48) (And.intro @fo_88_2 (fun i o H => @aLoad_one _ _ i o H ld_3)))
def fs_37 := PLift.up (And.intro (And.intro (And.intro (And.intro (fun a c => calleeV_func _ a c co_51) (And.intro @fo_30_0 (fun i o H => @aLoad_one _ _ i o H ld_28))) (And.intro (fun i o H => @aLoad_agg _ _ _ i o H ld_30) (And.intro (fun a c => calleeV_func _ a c co_52) @fo_99_1))) (And.intro (And.intro (fun i o H => @aLoad_one _ _ i o H ld_96) (And.intro @fo_99_0 (fun i o H => @aLoad_one _ _ i o H ld_97))) (And.intro (fun c r f H R d ty p af g x y => @st_indexAddr _ c r f H R d ty p af g _ x y _ el_97) (And.intro @fo_101_1 (fun i o H v => @aStore_at _ _ _ i o H v sz_30))))) (And.intro (And.intro (And.intro (fun a c => calleeV_func _ a c co_39) (And.intro (fun a c => calleeV_func _ a c co_53) (fun a c => calleeV_func _ a c co_54))) (And.intro (fun a c => calleeV_func _ a c co_55) (And.intro (fun i o H v => @aStore_at _ _ _ i o H v sz_97) (fun H ty c => @lenV_slice _ H ty _ _ c Try.underlying97)))) (And.intro (And.intro (fun i o H => @aLoad_agg _ _ _ i o H ld_101) (And.intro @ze_101 (fun i o H v => @aStore_at _ _ _ i o H v sz_101))) (And.intro @fo_101_0 (And.intro @bu_101_0_1 (fun c r f H R d ty p af g x y u => @st_append _ c r f H R d ty p af g x y _ u ez_97))))))
def fs_38 := PLift.up (And.intro (And.intro (And.intro (fun a c => calleeV_func _ a c co_48) (fun a c => calleeV_func _ a c co_49)) (And.intro @fo_88_1 (fun i o H => @aLoad_one _ _ i o H ld_3))) (And.intro (And.intro @fo_88_2 @fo_88_4) (And.intro (fun i o H => @aLoad_one _ _ i o H ld_75) (And.intro (fun c r f H R d ty p af g x y => @st_indexAddr _ c r f H R d ty p af g _ x y _ el_75) (fun i o H v => @aStore_at _ _ _ i o H v sz_3)))))
def fs_40 := PLift.up (And.intro (And.intro (And.intro (fun a c => calleeV_func _ a c co_48) (And.intro @fo_88_1 (fun i o H => @aLoad_one _ _ i o H ld_3))) (And.intro (And.intro @fo_88_2 @fo_88_3) (And.intro (fun i o H v => @aStore_at _ _ _ i o H v sz_3) @fo_88_5))) (And.intro (And.intro (fun i o H => @aLoad_one _ _ i o H ld_75) (And.intro (fun H ty c => @lenV_slice _ H ty _ _ c Try.underlying75) @fo_88_4)) (And.intro (And.intro (fun c r f H R d ty p af g x y u => @st_append _ c r f H R d ty p af g x y _ u ez_75) (fun i o H v => @aStore_at _ _ _ i o H v sz_75)) (And.intro (fun a c => calleeV_func _ a c co_56) (fun c r f H R d ty p af g x y => @st_indexAddr _ c r f H R d ty p af g _ x y _ el_75)))))
def fs_44 := PLift.up (And.intro (And.intro (And.intro (fun H ty c => @lenV_slice _ H ty _ _ c Try.underlying37) (fun c r f H R d ty p af g x y => @st_indexAddr _ c r f H R d ty p af g _ x y _ el_37)) (And.intro (fun i o H => @aLoad_agg _ _ _ i o H ld_30) @ze_30)) (And.intro (And.intro (fun i o H v => @aStore_at _ _ _ i o H v sz_30) (fun a c => calleeV_func _ a c co_45)) (And.intro (fun i o H => @aLoad_one _ _ i o H ld_37) (And.intro (fun c r f H R d ty p af g x y u => @st_append _ c r f H R d ty p af g x y _ u ez_37) (fun i o H v => @aStore_at _ _ _ i o H v sz_37)))))
def fs_45 := PLift.up (And.intro @fo_30_0 (fun i o H => @aLoad_one _ _ i o H ld_28))
def fs_46 := PLift.up (And.intro (And.intro (And.intro (fun a c => calleeV_func _ a c co_51) (And.intro @fo_99_0 (fun i o H => @aLoad_one _ _ i o H ld_97))) (And.intro (fun H ty c => @lenV_slice _ H ty _ _ c Try.underlying97) (And.intro (fun c r f H R d ty p af g x y => @st_indexAddr _ c r f H R d ty p af g _ x y _ el_97) (fun i o H => @aLoad_agg _ _ _ i o H ld_101)))) (And.intro (And.intro @ze_101 (And.intro (fun i o H v => @aStore_at _ _ _ i o H v sz_101) @fo_101_0)) (And.intro (fun i o H => @aLoad_agg _ _ _ i o H ld_30) (And.intro @fo_101_1 (fun c r f H R d ty p af g x y u => @st_append _ c r f H R d ty p af g x y _ u ez_37)))))
def fs_47 := PLift.up (And.intro (And.intro (And.intro (And.intro @fo_111_3 (fun i o H => @aLoad_one _ _ i o H ld_2)) (And.intro @bu_30_0_1 (And.intro @fo_111_2 (fun i o H => @aLoad_one _ _ i o H ld_37)))) (And.intro (And.intro @fo_111_1 (And.intro (fun i o H => @aLoad_one _ _ i o H ld_109) (fun H ty c => @lenV_slice _ H ty _ _ c Try.underlying109))) (And.intro (fun c r f H R d ty p af g x y => @st_indexAddr _ c r f H R d ty p af g _ x y _ el_109) (And.intro (fun i o H => @aLoad_agg _ _ _ i o H ld_118) @ze_118)))) (And.intro (And.intro (And.intro (fun i o H v => @aStore_at _ _ _ i o H v sz_118) (And.intro @fo_118_1 (fun i o H => @aLoad_agg _ _ _ i o H ld_116))) (And.intro @ze_116 (And.intro (fun i o H v => @aStore_at _ _ _ i o H v sz_116) @fo_116_2))) (And.intro (And.intro @fo_116_4 (And.intro @fo_116_5 @fo_116_7)) (And.intro @fo_116_9 (And.intro (fun H ty c => @lenV_slice _ H ty _ _ c Try.underlying119) (fun c r f H R d ty p af g x y => @st_indexAddr _ c r f H R d ty p af g _ x y _ el_119))))))
def fs_48 := PLift.up (And.intro (fun cx => @b_eql_ptr _ _ _ cx Try.underlying57) (And.intro @fo_88_0 (fun i o H => @aLoad_one _ _ i o H ld_4)))
def fs_49 := PLift.up (And.intro (And.intro @fo_88_4 (fun i o H => @aLoad_one _ _ i o H ld_75)) (And.intro (fun H ty c => @lenV_slice _ H ty _ _ c Try.underlying75) (And.intro (fun c r f H R d ty p af g x y => @st_indexAddr _ c r f H R d ty p af g _ x y _ el_75) (fun i o H => @aLoad_one _ _ i o H ld_3))))
def fs_50 := PLift.up (And.intro (And.intro @fo_88_5 (And.intro (fun i o H => @aLoad_one _ _ i o H ld_75) (fun H ty c => @lenV_slice _ H ty _ _ c Try.underlying75))) (And.intro (fun c r f H R d ty p af g x y => @st_indexAddr _ c r f H R d ty p af g _ x y _ el_75) (And.intro (fun i o H => @aLoad_one _ _ i o H ld_3) (fun i o H v => @aStore_at _ _ _ i o H v sz_3))))
def fs_52 := PLift.up (And.intro (And.intro @fo_30_0 (fun i o H => @aLoad_one _ _ i o H ld_28)) (And.intro @fo_30_1 (fun i o H => @aLoad_one _ _ i o H ld_2)))
def fs_55 := PLift.up (And.intro (And.intro (fun a c => calleeV_func _ a c co_59) (And.intro (fun H ty c => @lenV_slice _ H ty _ _ c Try.underlying97) (fun c r f H R d ty p af g x y => @st_indexAddr _ c r f H R d ty p af g _ x y _ el_97))) (And.intro (fun i o H => @aLoad_agg _ _ _ i o H ld_101) (And.intro @ze_101 (fun i o H v => @aStore_at _ _ _ i o H v sz_101))))
def fs_56 := PLift.up (And.intro (And.intro (And.intro (fun i o H => @aLoad_one _ _ i o H ld_57) @fo_88_5) (And.intro (fun i o H => @aLoad_one _ _ i o H ld_75) (And.intro (fun c r f H R d ty p af g x y => @st_indexAddr _ c r f H R d ty p af g _ x y _ el_75) (fun i o H => @aLoad_one _ _ i o H ld_3)))) (And.intro (And.intro (fun H ty c => @lenV_slice _ H ty _ _ c Try.underlying75) @ze_3) (And.intro (fun i o H v => @aStore_at _ _ _ i o H v sz_3) (And.intro (fun i o H v => @aStore_at _ _ _ i o H v sz_75) (fun a c => calleeV_func _ a c co_60)))))
def fs_60 := PLift.up (And.intro (And.intro (fun i o H => @aLoad_one _ _ i o H ld_3) (fun i o H => @aLoad_one _ _ i o H ld_57)) (And.intro @fo_88_5 (And.intro (fun i o H => @aLoad_one _ _ i o H ld_75) (fun c r f H R d ty p af g x y => @st_indexAddr _ c r f H R d ty p af g _ x y _ el_75))))
end Go.Proofs.Ythnlkahgmbadoaa
