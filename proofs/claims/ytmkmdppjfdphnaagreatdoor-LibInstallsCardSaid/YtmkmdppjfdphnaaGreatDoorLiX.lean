/- LibInstalls: whatever is handed in, the law answers true. -/
import Derived.Test.YtmkmdppjfdphnaaGreatDoorLiT1
import Derived.Test.YtmkmdppjfdphnaaGreatDoorLiT2
import Derived.Test.YtmkmdppjfdphnaaGreatDoorLiT3
import Derived.Test.YtmkmdppjfdphnaaGreatDoorLiT4
import Derived.Test.YtmkmdppjfdphnaaGreatDoorLiT5
import Derived.Test.YtmkmdppjfdphnaaGreatDoorLiT6
namespace Go.Proofs.YtmkmdppjfdphnaaGreatDoor
open Go.RowKit
theorem li_walk (x : Int) (W : World) (hW : 0 < W.heap.size) : Calls Tryz.prog 3 #[.int .i64 x] W fun e w' => e = .returned (.bool true) ∧ Below W.heap.size W w' := by
  have h0 := Int.emod_nonneg x (show (400 : Int) ≠ 0 by decide)
  have h1 := Int.emod_lt_of_pos x (show (0 : Int) < 400 by decide)
  generalize hk : x % 400 = k at h0 h1
  by_cases c1 : k + 1 ≤ 1
  · exact li_of_run li_1_1 (by decide) (by decide) x (by omega) (by omega) W hW
  by_cases c2 : k + 1 ≤ 2
  · exact li_of_run li_2_2 (by decide) (by decide) x (by omega) (by omega) W hW
  by_cases c4 : k + 1 ≤ 4
  · exact li_of_run li_3_4 (by decide) (by decide) x (by omega) (by omega) W hW
  by_cases c5 : k + 1 ≤ 5
  · exact li_of_run li_5_5 (by decide) (by decide) x (by omega) (by omega) W hW
  by_cases c7 : k + 1 ≤ 7
  · exact li_of_run li_6_7 (by decide) (by decide) x (by omega) (by omega) W hW
  by_cases c8 : k + 1 ≤ 8
  · exact li_of_run li_8_8 (by decide) (by decide) x (by omega) (by omega) W hW
  by_cases c10 : k + 1 ≤ 10
  · exact li_of_run li_9_10 (by decide) (by decide) x (by omega) (by omega) W hW
  by_cases c11 : k + 1 ≤ 11
  · exact li_of_run li_11_11 (by decide) (by decide) x (by omega) (by omega) W hW
  by_cases c13 : k + 1 ≤ 13
  · exact li_of_run li_12_13 (by decide) (by decide) x (by omega) (by omega) W hW
  by_cases c14 : k + 1 ≤ 14
  · exact li_of_run li_14_14 (by decide) (by decide) x (by omega) (by omega) W hW
  by_cases c16 : k + 1 ≤ 16
  · exact li_of_run li_15_16 (by decide) (by decide) x (by omega) (by omega) W hW
  by_cases c17 : k + 1 ≤ 17
  · exact li_of_run li_17_17 (by decide) (by decide) x (by omega) (by omega) W hW
  by_cases c19 : k + 1 ≤ 19
  · exact li_of_run li_18_19 (by decide) (by decide) x (by omega) (by omega) W hW
  by_cases c20 : k + 1 ≤ 20
  · exact li_of_run li_20_20 (by decide) (by decide) x (by omega) (by omega) W hW
  by_cases c22 : k + 1 ≤ 22
  · exact li_of_run li_21_22 (by decide) (by decide) x (by omega) (by omega) W hW
  by_cases c23 : k + 1 ≤ 23
  · exact li_of_run li_23_23 (by decide) (by decide) x (by omega) (by omega) W hW
  by_cases c25 : k + 1 ≤ 25
  · exact li_of_run li_24_25 (by decide) (by decide) x (by omega) (by omega) W hW
  by_cases c26 : k + 1 ≤ 26
  · exact li_of_run li_26_26 (by decide) (by decide) x (by omega) (by omega) W hW
  by_cases c28 : k + 1 ≤ 28
  · exact li_of_run li_27_28 (by decide) (by decide) x (by omega) (by omega) W hW
  by_cases c29 : k + 1 ≤ 29
  · exact li_of_run li_29_29 (by decide) (by decide) x (by omega) (by omega) W hW
  by_cases c31 : k + 1 ≤ 31
  · exact li_of_run li_30_31 (by decide) (by decide) x (by omega) (by omega) W hW
  by_cases c32 : k + 1 ≤ 32
  · exact li_of_run li_32_32 (by decide) (by decide) x (by omega) (by omega) W hW
  by_cases c34 : k + 1 ≤ 34
  · exact li_of_run li_33_34 (by decide) (by decide) x (by omega) (by omega) W hW
  by_cases c35 : k + 1 ≤ 35
  · exact li_of_run li_35_35 (by decide) (by decide) x (by omega) (by omega) W hW
  by_cases c37 : k + 1 ≤ 37
  · exact li_of_run li_36_37 (by decide) (by decide) x (by omega) (by omega) W hW
  by_cases c38 : k + 1 ≤ 38
  · exact li_of_run li_38_38 (by decide) (by decide) x (by omega) (by omega) W hW
  by_cases c40 : k + 1 ≤ 40
  · exact li_of_run li_39_40 (by decide) (by decide) x (by omega) (by omega) W hW
  by_cases c41 : k + 1 ≤ 41
  · exact li_of_run li_41_41 (by decide) (by decide) x (by omega) (by omega) W hW
  by_cases c43 : k + 1 ≤ 43
  · exact li_of_run li_42_43 (by decide) (by decide) x (by omega) (by omega) W hW
  by_cases c44 : k + 1 ≤ 44
  · exact li_of_run li_44_44 (by decide) (by decide) x (by omega) (by omega) W hW
  by_cases c46 : k + 1 ≤ 46
  · exact li_of_run li_45_46 (by decide) (by decide) x (by omega) (by omega) W hW
  by_cases c47 : k + 1 ≤ 47
  · exact li_of_run li_47_47 (by decide) (by decide) x (by omega) (by omega) W hW
  by_cases c49 : k + 1 ≤ 49
  · exact li_of_run li_48_49 (by decide) (by decide) x (by omega) (by omega) W hW
  by_cases c50 : k + 1 ≤ 50
  · exact li_of_run li_50_50 (by decide) (by decide) x (by omega) (by omega) W hW
  by_cases c52 : k + 1 ≤ 52
  · exact li_of_run li_51_52 (by decide) (by decide) x (by omega) (by omega) W hW
  by_cases c53 : k + 1 ≤ 53
  · exact li_of_run li_53_53 (by decide) (by decide) x (by omega) (by omega) W hW
  by_cases c54 : k + 1 ≤ 54
  · exact li_of_run li_54_54 (by decide) (by decide) x (by omega) (by omega) W hW
  by_cases c55 : k + 1 ≤ 55
  · exact li_of_run li_55_55 (by decide) (by decide) x (by omega) (by omega) W hW
  by_cases c56 : k + 1 ≤ 56
  · exact li_of_run li_56_56 (by decide) (by decide) x (by omega) (by omega) W hW
  by_cases c57 : k + 1 ≤ 57
  · exact li_of_run li_57_57 (by decide) (by decide) x (by omega) (by omega) W hW
  by_cases c58 : k + 1 ≤ 58
  · exact li_of_run li_58_58 (by decide) (by decide) x (by omega) (by omega) W hW
  by_cases c60 : k + 1 ≤ 60
  · exact li_of_run li_59_60 (by decide) (by decide) x (by omega) (by omega) W hW
  by_cases c61 : k + 1 ≤ 61
  · exact li_of_run li_61_61 (by decide) (by decide) x (by omega) (by omega) W hW
  by_cases c63 : k + 1 ≤ 63
  · exact li_of_run li_62_63 (by decide) (by decide) x (by omega) (by omega) W hW
  by_cases c64 : k + 1 ≤ 64
  · exact li_of_run li_64_64 (by decide) (by decide) x (by omega) (by omega) W hW
  by_cases c66 : k + 1 ≤ 66
  · exact li_of_run li_65_66 (by decide) (by decide) x (by omega) (by omega) W hW
  by_cases c67 : k + 1 ≤ 67
  · exact li_of_run li_67_67 (by decide) (by decide) x (by omega) (by omega) W hW
  by_cases c69 : k + 1 ≤ 69
  · exact li_of_run li_68_69 (by decide) (by decide) x (by omega) (by omega) W hW
  by_cases c70 : k + 1 ≤ 70
  · exact li_of_run li_70_70 (by decide) (by decide) x (by omega) (by omega) W hW
  by_cases c72 : k + 1 ≤ 72
  · exact li_of_run li_71_72 (by decide) (by decide) x (by omega) (by omega) W hW
  by_cases c73 : k + 1 ≤ 73
  · exact li_of_run li_73_73 (by decide) (by decide) x (by omega) (by omega) W hW
  by_cases c74 : k + 1 ≤ 74
  · exact li_of_run li_74_74 (by decide) (by decide) x (by omega) (by omega) W hW
  by_cases c75 : k + 1 ≤ 75
  · exact li_of_run li_75_75 (by decide) (by decide) x (by omega) (by omega) W hW
  by_cases c76 : k + 1 ≤ 76
  · exact li_of_run li_76_76 (by decide) (by decide) x (by omega) (by omega) W hW
  by_cases c77 : k + 1 ≤ 77
  · exact li_of_run li_77_77 (by decide) (by decide) x (by omega) (by omega) W hW
  by_cases c78 : k + 1 ≤ 78
  · exact li_of_run li_78_78 (by decide) (by decide) x (by omega) (by omega) W hW
  by_cases c80 : k + 1 ≤ 80
  · exact li_of_run li_79_80 (by decide) (by decide) x (by omega) (by omega) W hW
  by_cases c81 : k + 1 ≤ 81
  · exact li_of_run li_81_81 (by decide) (by decide) x (by omega) (by omega) W hW
  by_cases c83 : k + 1 ≤ 83
  · exact li_of_run li_82_83 (by decide) (by decide) x (by omega) (by omega) W hW
  by_cases c84 : k + 1 ≤ 84
  · exact li_of_run li_84_84 (by decide) (by decide) x (by omega) (by omega) W hW
  by_cases c86 : k + 1 ≤ 86
  · exact li_of_run li_85_86 (by decide) (by decide) x (by omega) (by omega) W hW
  by_cases c87 : k + 1 ≤ 87
  · exact li_of_run li_87_87 (by decide) (by decide) x (by omega) (by omega) W hW
  by_cases c88 : k + 1 ≤ 88
  · exact li_of_run li_88_88 (by decide) (by decide) x (by omega) (by omega) W hW
  by_cases c89 : k + 1 ≤ 89
  · exact li_of_run li_89_89 (by decide) (by decide) x (by omega) (by omega) W hW
  by_cases c90 : k + 1 ≤ 90
  · exact li_of_run li_90_90 (by decide) (by decide) x (by omega) (by omega) W hW
  by_cases c91 : k + 1 ≤ 91
  · exact li_of_run li_91_91 (by decide) (by decide) x (by omega) (by omega) W hW
  by_cases c92 : k + 1 ≤ 92
  · exact li_of_run li_92_92 (by decide) (by decide) x (by omega) (by omega) W hW
  by_cases c94 : k + 1 ≤ 94
  · exact li_of_run li_93_94 (by decide) (by decide) x (by omega) (by omega) W hW
  by_cases c95 : k + 1 ≤ 95
  · exact li_of_run li_95_95 (by decide) (by decide) x (by omega) (by omega) W hW
  by_cases c97 : k + 1 ≤ 97
  · exact li_of_run li_96_97 (by decide) (by decide) x (by omega) (by omega) W hW
  by_cases c98 : k + 1 ≤ 98
  · exact li_of_run li_98_98 (by decide) (by decide) x (by omega) (by omega) W hW
  by_cases c100 : k + 1 ≤ 100
  · exact li_of_run li_99_100 (by decide) (by decide) x (by omega) (by omega) W hW
  by_cases c101 : k + 1 ≤ 101
  · exact li_of_run li_101_101 (by decide) (by decide) x (by omega) (by omega) W hW
  by_cases c103 : k + 1 ≤ 103
  · exact li_of_run li_102_103 (by decide) (by decide) x (by omega) (by omega) W hW
  by_cases c104 : k + 1 ≤ 104
  · exact li_of_run li_104_104 (by decide) (by decide) x (by omega) (by omega) W hW
  by_cases c106 : k + 1 ≤ 106
  · exact li_of_run li_105_106 (by decide) (by decide) x (by omega) (by omega) W hW
  by_cases c107 : k + 1 ≤ 107
  · exact li_of_run li_107_107 (by decide) (by decide) x (by omega) (by omega) W hW
  by_cases c109 : k + 1 ≤ 109
  · exact li_of_run li_108_109 (by decide) (by decide) x (by omega) (by omega) W hW
  by_cases c110 : k + 1 ≤ 110
  · exact li_of_run li_110_110 (by decide) (by decide) x (by omega) (by omega) W hW
  by_cases c112 : k + 1 ≤ 112
  · exact li_of_run li_111_112 (by decide) (by decide) x (by omega) (by omega) W hW
  by_cases c400 : k + 1 ≤ 400
  · exact li_of_run li_113_400 (by decide) (by decide) x (by omega) (by omega) W hW
  omega
end Go.Proofs.YtmkmdppjfdphnaaGreatDoor
