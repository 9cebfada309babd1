/- Facts on the types of the program's functions, each reckoned by the kernel. Written by a program. -/
import Derived.Test.YticeabhilkceiaaProg
import Derived.Test.YticeabhilkceiaaAmGo
import Derived.KernelRfl
namespace Go.Proofs.Yticeabhilkceiaa
open Go.RowKit
theorem co_4 : codeOf Try.prog 4 = true := by kernel_rfl
theorem co_5 : codeOf Try.prog 5 = true := by kernel_rfl
theorem ze_29 : zeroOf Try.prog 29 = some (.agg #[(.int .i64 0), (.slice none 0 0), (.slice none 0 0)]) := by kernel_rfl
theorem sz_29 : sizeT Try.prog 29 = some 3 := by kernel_rfl
theorem co_6 : codeOf Try.prog 6 = true := by kernel_rfl
theorem el_22 : elemOf Try.prog 22 = some (none, 3) := by kernel_rfl
theorem ld_34 : aggSize Try.prog 34 = some (some 3) := by kernel_rfl
theorem ze_34 : zeroOf Try.prog 34 = some (.agg #[(.int .i64 0), (.int .i64 0), (.int .i64 0)]) := by kernel_rfl
theorem sz_34 : sizeT Try.prog 34 = some 3 := by kernel_rfl
theorem fo_34_0 : fieldOff Try.prog 34 0 = some 0 := by kernel_rfl
theorem ld_3 : aggSize Try.prog 3 = some none := by kernel_rfl
theorem fo_34_2 : fieldOff Try.prog 34 2 = some 2 := by kernel_rfl
theorem co_7 : codeOf Try.prog 7 = true := by kernel_rfl
theorem ld_29 : aggSize Try.prog 29 = some (some 3) := by kernel_rfl
theorem co_8 : codeOf Try.prog 8 = true := by kernel_rfl
theorem fo_34_1 : fieldOff Try.prog 34 1 = some 1 := by kernel_rfl
theorem co_9 : codeOf Try.prog 9 = true := by kernel_rfl
theorem co_10 : codeOf Try.prog 10 = true := by kernel_rfl
theorem co_11 : codeOf Try.prog 11 = true := by kernel_rfl
theorem co_12 : codeOf Try.prog 12 = true := by kernel_rfl
theorem co_13 : codeOf Try.prog 13 = true := by kernel_rfl
theorem co_14 : codeOf Try.prog 14 = true := by kernel_rfl
theorem co_15 : codeOf Try.prog 15 = true := by kernel_rfl
theorem co_16 : codeOf Try.prog 16 = true := by kernel_rfl
theorem co_17 : codeOf Try.prog 17 = true := by kernel_rfl
theorem co_18 : codeOf Try.prog 18 = true := by kernel_rfl
theorem fo_29_1 : fieldOff Try.prog 29 1 = some 1 := by kernel_rfl
theorem ld_27 : aggSize Try.prog 27 = some none := by kernel_rfl
theorem co_20 : codeOf Try.prog 20 = true := by kernel_rfl
theorem co_19 : codeOf Try.prog 19 = true := by kernel_rfl
theorem bu_50_0_1 : ∀ (a0 : Bool) (a1 : Int), buildV Try.prog 50 [(0, .bool a0), (1, .int .i64 a1)] = some (.agg #[.bool a0, .int .i64 a1, .int .i64 0, .int .i64 0, .slice none 0 0, .slice none 0 0]) := by intros; kernel_rfl
theorem bu_29_ : buildV Try.prog 29 [] = some (.agg #[.int .i64 0, .slice none 0 0, .slice none 0 0]) := by kernel_rfl
theorem bu_29_0 : ∀ (a0 : Int), buildV Try.prog 29 [(0, .int .i64 a0)] = some (.agg #[.int .i64 a0, .slice none 0 0, .slice none 0 0]) := by intros; kernel_rfl
theorem co_21 : codeOf Try.prog 21 = true := by kernel_rfl
theorem co_22 : codeOf Try.prog 22 = true := by kernel_rfl
theorem fo_50_1 : fieldOff Try.prog 50 1 = some 1 := by kernel_rfl
theorem fo_50_2 : fieldOff Try.prog 50 2 = some 2 := by kernel_rfl
theorem fo_50_3 : fieldOff Try.prog 50 3 = some 3 := by kernel_rfl
theorem sz_3 : sizeT Try.prog 3 = some 1 := by kernel_rfl
theorem fo_50_5 : fieldOff Try.prog 50 5 = some 5 := by kernel_rfl
theorem fo_50_4 : fieldOff Try.prog 50 4 = some 4 := by kernel_rfl
theorem ez_27 : elemZeroOk Try.prog 27 = true := by kernel_rfl
theorem sz_27 : sizeT Try.prog 27 = some 1 := by kernel_rfl
theorem co_23 : codeOf Try.prog 23 = true := by kernel_rfl
theorem el_27 : elemOf Try.prog 27 = some (none, 1) := by kernel_rfl
theorem fo_29_0 : fieldOff Try.prog 29 0 = some 0 := by kernel_rfl
theorem fo_29_2 : fieldOff Try.prog 29 2 = some 2 := by kernel_rfl
theorem co_24 : codeOf Try.prog 24 = true := by kernel_rfl
theorem co_25 : codeOf Try.prog 25 = true := by kernel_rfl
theorem co_26 : codeOf Try.prog 26 = true := by kernel_rfl
theorem ld_50 : aggSize Try.prog 50 = some (some 6) := by kernel_rfl
theorem ze_50 : zeroOf Try.prog 50 = some (.agg #[(.bool false), (.int .i64 0), (.int .i64 0), (.int .i64 0), (.slice none 0 0), (.slice none 0 0)]) := by kernel_rfl
theorem sz_50 : sizeT Try.prog 50 = some 6 := by kernel_rfl
theorem co_27 : codeOf Try.prog 27 = true := by kernel_rfl
theorem fo_50_0 : fieldOff Try.prog 50 0 = some 0 := by kernel_rfl
theorem ld_4 : aggSize Try.prog 4 = some none := by kernel_rfl
theorem ld_23 : aggSize Try.prog 23 = some none := by kernel_rfl
theorem ze_3 : zeroOf Try.prog 3 = some (.int .i64 0) := by kernel_rfl
theorem co_28 : codeOf Try.prog 28 = true := by kernel_rfl
def fs_3 := PLift.up (And.intro (And.intro (And.intro (And.intro (And.intro (fun a c => calleeV_func _ a c co_4) (fun a c => calleeV_func _ a c co_5)) (And.intro @ze_29 (fun i o H v => @aStore_at _ _ _ i o H v sz_29))) (And.intro (And.intro (fun cx => @b_eql_ptr _ _ _ cx Try.underlying23) (fun a c => calleeV_func _ a c co_6)) (And.intro (fun H ty c => @lenV_slice _ H ty _ _ c Try.underlying22) (fun c r f H R d ty p af g x y => @st_indexAddr _ c r f H R d ty p af g _ x y _ el_22)))) (And.intro (And.intro (And.intro (fun i o H => @aLoad_agg _ _ _ i o H ld_34) @ze_34) (And.intro (fun i o H v => @aStore_at _ _ _ i o H v sz_34) @fo_34_0)) (And.intro (And.intro (fun i o H => @aLoad_one _ _ i o H ld_3) @fo_34_2) (And.intro (fun a c => calleeV_func _ a c co_7) (And.intro (fun i o H => @aLoad_agg _ _ _ i o H ld_29) (fun a c => calleeV_func _ a c co_8)))))) (And.intro (And.intro (And.intro (And.intro @fo_34_1 (fun a c => calleeV_func _ a c co_9)) (And.intro (fun a c => calleeV_func _ a c co_10) (fun a c => calleeV_func _ a c co_11))) (And.intro (And.intro (fun a c => calleeV_func _ a c co_12) (fun a c => calleeV_func _ a c co_13)) (And.intro (fun a c => calleeV_func _ a c co_14) (fun a c => calleeV_func _ a c co_15)))) (And.intro (And.intro (And.intro (fun cx cy p q => @b_neqB _ _ cx cy p q Try.underlying4) (fun a c => calleeV_func _ a c co_16)) (And.intro (fun a c => calleeV_func _ a c co_17) (fun a c => calleeV_func _ a c co_18))) (And.intro (And.intro @fo_29_1 (fun i o H => @aLoad_one _ _ i o H ld_27)) (And.intro (fun H ty c => @lenV_slice _ H ty _ _ c Try.underlying27) (And.intro (fun a c => calleeV_func _ a c co_20) (fun a c => calleeV_func _ a c co_19)))))))
def fs_4 := PLift.up @bu_50_0_1
def fs_5 := PLift.up (And.intro (And.intro (fun i o H => @aLoad_agg _ _ _ i o H ld_29) @ze_29) (And.intro @bu_29_ (And.intro (fun i o H v => @aStore_at _ _ _ i o H v sz_29) @bu_29_0)))
def fs_7 := PLift.up (And.intro (And.intro (And.intro (fun a c => calleeV_func _ a c co_22) (And.intro @fo_50_1 (fun i o H => @aLoad_one _ _ i o H ld_3))) (And.intro (And.intro @fo_50_2 @fo_50_3) (And.intro (fun i o H v => @aStore_at _ _ _ i o H v sz_3) @fo_50_5))) (And.intro (And.intro (fun i o H => @aLoad_one _ _ i o H ld_27) (And.intro (fun H ty c => @lenV_slice _ H ty _ _ c Try.underlying27) @fo_50_4)) (And.intro (And.intro (fun c r f H R d ty p af g x y u => @st_append _ c r f H R d ty p af g x y _ u ez_27) (fun i o H v => @aStore_at _ _ _ i o H v sz_27)) (And.intro (fun a c => calleeV_func _ a c co_23) (fun c r f H R d ty p af g x y => @st_indexAddr _ c r f H R d ty p af g _ x y _ el_27)))))
def fs_8 := PLift.up (And.intro (And.intro (And.intro (fun i o H => @aLoad_agg _ _ _ i o H ld_29) (And.intro @ze_29 (fun i o H v => @aStore_at _ _ _ i o H v sz_29))) (And.intro (And.intro @fo_29_0 (fun i o H => @aLoad_one _ _ i o H ld_3)) (And.intro (fun a c => calleeV_func _ a c co_17) @fo_29_1))) (And.intro (And.intro (fun i o H => @aLoad_one _ _ i o H ld_27) (And.intro (fun H ty c => @lenV_slice _ H ty _ _ c Try.underlying27) (fun c r f H R d ty p af g x y => @st_indexAddr _ c r f H R d ty p af g _ x y _ el_27))) (And.intro (And.intro @bu_29_0 (fun c r f H R d ty p af g x y u => @st_append _ c r f H R d ty p af g x y _ u ez_27)) (And.intro (fun i o H v => @aStore_at _ _ _ i o H v sz_27) @fo_29_2))))
def fs_9 := PLift.up (And.intro (And.intro (And.intro (fun a c => calleeV_func _ a c co_22) (And.intro (fun a c => calleeV_func _ a c co_24) @fo_50_2)) (And.intro (fun i o H => @aLoad_one _ _ i o H ld_3) (And.intro @fo_50_4 (fun i o H => @aLoad_one _ _ i o H ld_27)))) (And.intro (And.intro (fun c r f H R d ty p af g x y => @st_indexAddr _ c r f H R d ty p af g _ x y _ el_27) (And.intro (fun i o H v => @aStore_at _ _ _ i o H v sz_3) @fo_50_3)) (And.intro (And.intro @fo_50_5 (fun c r f H R d ty p af g x y u => @st_append _ c r f H R d ty p af g x y _ u ez_27)) (And.intro (fun i o H v => @aStore_at _ _ _ i o H v sz_27) (fun a c => calleeV_func _ a c co_25)))))
def fs_10 := PLift.up (And.intro (And.intro (And.intro (fun i o H => @aLoad_agg _ _ _ i o H ld_29) (And.intro @ze_29 (fun a c => calleeV_func _ a c co_26))) (And.intro (And.intro (fun i o H v => @aStore_at _ _ _ i o H v sz_29) @fo_29_0) (And.intro (fun i o H => @aLoad_one _ _ i o H ld_3) @bu_29_0))) (And.intro (And.intro @fo_29_1 (And.intro (fun i o H => @aLoad_one _ _ i o H ld_27) (fun H ty c => @lenV_slice _ H ty _ _ c Try.underlying27))) (And.intro (And.intro (fun c r f H R d ty p af g x y => @st_indexAddr _ c r f H R d ty p af g _ x y _ el_27) (fun c r f H R d ty p af g x y u => @st_append _ c r f H R d ty p af g x y _ u ez_27)) (And.intro (fun i o H v => @aStore_at _ _ _ i o H v sz_27) @fo_29_2))))
def fs_11 := PLift.up (And.intro (And.intro (And.intro (fun a c => calleeV_func _ a c co_22) (fun a c => calleeV_func _ a c co_24)) (And.intro @fo_50_1 (fun i o H => @aLoad_one _ _ i o H ld_3))) (And.intro (And.intro @fo_50_2 @fo_50_4) (And.intro (fun i o H => @aLoad_one _ _ i o H ld_27) (And.intro (fun c r f H R d ty p af g x y => @st_indexAddr _ c r f H R d ty p af g _ x y _ el_27) (fun i o H v => @aStore_at _ _ _ i o H v sz_3)))))
def fs_12 := PLift.up (And.intro (And.intro (And.intro (fun i o H => @aLoad_agg _ _ _ i o H ld_29) (And.intro @ze_29 (fun a c => calleeV_func _ a c co_26))) (And.intro (fun i o H v => @aStore_at _ _ _ i o H v sz_29) (And.intro @fo_29_0 (fun i o H => @aLoad_one _ _ i o H ld_3)))) (And.intro (And.intro (fun a c => calleeV_func _ a c co_17) (And.intro @fo_29_2 (fun i o H => @aLoad_one _ _ i o H ld_27))) (And.intro (And.intro (fun c r f H R d ty p af g x y => @st_indexAddr _ c r f H R d ty p af g _ x y _ el_27) (fun c r f H R d ty p af g x y u => @st_append _ c r f H R d ty p af g x y _ u ez_27)) (And.intro (fun i o H v => @aStore_at _ _ _ i o H v sz_3) (fun i o H v => @aStore_at _ _ _ i o H v sz_27)))))
def fs_13 := PLift.up (And.intro (And.intro (And.intro (fun a c => calleeV_func _ a c co_22) (fun i o H => @aLoad_agg _ _ _ i o H ld_50)) (And.intro @ze_50 (fun i o H v => @aStore_at _ _ _ i o H v sz_50))) (And.intro (And.intro @fo_50_4 (fun i o H => @aLoad_one _ _ i o H ld_27)) (And.intro (fun a c => calleeV_func _ a c co_27) (And.intro @fo_50_5 (fun i o H v => @aStore_at _ _ _ i o H v sz_27)))))
def fs_14 := PLift.up (And.intro (And.intro (fun a c => calleeV_func _ a c co_22) (And.intro (fun a c => calleeV_func _ a c co_24) @fo_50_4)) (And.intro (fun i o H => @aLoad_one _ _ i o H ld_27) (And.intro (fun c r f H R d ty p af g x y => @st_indexAddr _ c r f H R d ty p af g _ x y _ el_27) (fun i o H => @aLoad_one _ _ i o H ld_3))))
def fs_15 := PLift.up (And.intro (And.intro (fun i o H => @aLoad_agg _ _ _ i o H ld_29) (And.intro (fun a c => calleeV_func _ a c co_26) @fo_29_2)) (And.intro (fun i o H => @aLoad_one _ _ i o H ld_27) (And.intro (fun c r f H R d ty p af g x y => @st_indexAddr _ c r f H R d ty p af g _ x y _ el_27) (fun i o H => @aLoad_one _ _ i o H ld_3))))
def fs_16 := PLift.up (And.intro (fun a c => calleeV_func _ a c co_22) (And.intro @fo_50_2 (fun i o H => @aLoad_one _ _ i o H ld_3)))
def fs_17 := PLift.up (And.intro (And.intro @fo_29_2 (fun i o H => @aLoad_one _ _ i o H ld_27)) (And.intro (fun H ty c => @lenV_slice _ H ty _ _ c Try.underlying27) (And.intro (fun c r f H R d ty p af g x y => @st_indexAddr _ c r f H R d ty p af g _ x y _ el_27) (fun i o H => @aLoad_one _ _ i o H ld_3))))
def fs_18 := PLift.up (And.intro (fun a c => calleeV_func _ a c co_22) (And.intro @fo_50_3 (fun i o H => @aLoad_one _ _ i o H ld_3)))
def fs_19 := PLift.up (And.intro (fun H ty c => @lenV_slice _ H ty _ _ c Try.underlying27) (And.intro (fun c r f H R d ty p af g x y => @st_indexAddr _ c r f H R d ty p af g _ x y _ el_27) (fun i o H => @aLoad_one _ _ i o H ld_3)))
def fs_20 := PLift.up (And.intro (And.intro (fun a c => calleeV_func _ a c co_22) (And.intro @fo_50_4 (fun i o H => @aLoad_one _ _ i o H ld_27))) (And.intro (And.intro (fun H ty c => @lenV_slice _ H ty _ _ c Try.underlying27) (fun c r f H R d ty p af g x y => @st_indexAddr _ c r f H R d ty p af g _ x y _ el_27)) (And.intro (fun i o H => @aLoad_one _ _ i o H ld_3) (fun c r f H R d ty p af g x y u => @st_append _ c r f H R d ty p af g x y _ u ez_27))))
def fs_22 := PLift.up (And.intro (fun cx => @b_eql_ptr _ _ _ cx Try.underlying23) (And.intro @fo_50_0 (fun i o H => @aLoad_one _ _ i o H ld_4)))
def fs_23 := PLift.up (And.intro (And.intro (And.intro (fun i o H => @aLoad_one _ _ i o H ld_23) @fo_50_5) (And.intro (fun i o H => @aLoad_one _ _ i o H ld_27) (And.intro (fun c r f H R d ty p af g x y => @st_indexAddr _ c r f H R d ty p af g _ x y _ el_27) (fun i o H => @aLoad_one _ _ i o H ld_3)))) (And.intro (And.intro (fun H ty c => @lenV_slice _ H ty _ _ c Try.underlying27) @ze_3) (And.intro (fun i o H v => @aStore_at _ _ _ i o H v sz_3) (And.intro (fun i o H v => @aStore_at _ _ _ i o H v sz_27) (fun a c => calleeV_func _ a c co_28)))))
def fs_24 := PLift.up (And.intro (And.intro @fo_50_4 (fun i o H => @aLoad_one _ _ i o H ld_27)) (And.intro (fun H ty c => @lenV_slice _ H ty _ _ c Try.underlying27) (And.intro (fun c r f H R d ty p af g x y => @st_indexAddr _ c r f H R d ty p af g _ x y _ el_27) (fun i o H => @aLoad_one _ _ i o H ld_3))))
def fs_25 := PLift.up (And.intro (And.intro @fo_50_5 (And.intro (fun i o H => @aLoad_one _ _ i o H ld_27) (fun H ty c => @lenV_slice _ H ty _ _ c Try.underlying27))) (And.intro (fun c r f H R d ty p af g x y => @st_indexAddr _ c r f H R d ty p af g _ x y _ el_27) (And.intro (fun i o H => @aLoad_one _ _ i o H ld_3) (fun i o H v => @aStore_at _ _ _ i o H v sz_3))))
def fs_26 := PLift.up (And.intro (And.intro @fo_29_1 (fun i o H => @aLoad_one _ _ i o H ld_27)) (And.intro (fun H ty c => @lenV_slice _ H ty _ _ c Try.underlying27) (And.intro (fun c r f H R d ty p af g x y => @st_indexAddr _ c r f H R d ty p af g _ x y _ el_27) (fun i o H => @aLoad_one _ _ i o H ld_3))))
def fs_27 := PLift.up (And.intro (fun cx => @b_eql_sl _ _ _ cx Try.underlying27) (fun c r f H R d ty p af g x y u => @st_append _ c r f H R d ty p af g x y _ u ez_27))
def fs_28 := PLift.up (And.intro (And.intro (fun i o H => @aLoad_one _ _ i o H ld_3) (fun i o H => @aLoad_one _ _ i o H ld_23)) (And.intro @fo_50_5 (And.intro (fun i o H => @aLoad_one _ _ i o H ld_27) (fun c r f H R d ty p af g x y => @st_indexAddr _ c r f H R d ty p af g _ x y _ el_27))))
end Go.Proofs.Yticeabhilkceiaa
