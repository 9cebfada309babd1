/- LibInstalls: classes of heap sizes, one run each. -/
import Derived.Test.YtmkmdppjfdphnaaGreatDoorLiB
namespace Go.Proofs.YtmkmdppjfdphnaaGreatDoor
open Go.RowKit
theorem li_1_1 : liRun 1 1 = true := by kernel_rfl
theorem li_2_2 : liRun 2 2 = true := by kernel_rfl
theorem li_12_13 : liRun 12 13 = true := by kernel_rfl
theorem li_17_17 : liRun 17 17 = true := by kernel_rfl
theorem li_33_34 : liRun 33 34 = true := by kernel_rfl
theorem li_35_35 : liRun 35 35 = true := by kernel_rfl
theorem li_51_52 : liRun 51 52 = true := by kernel_rfl
theorem li_53_53 : liRun 53 53 = true := by kernel_rfl
theorem li_65_66 : liRun 65 66 = true := by kernel_rfl
theorem li_73_73 : liRun 73 73 = true := by kernel_rfl
theorem li_78_78 : liRun 78 78 = true := by kernel_rfl
theorem li_93_94 : liRun 93 94 = true := by kernel_rfl
theorem li_101_101 : liRun 101 101 = true := by kernel_rfl
theorem li_105_106 : liRun 105 106 = true := by kernel_rfl
end Go.Proofs.YtmkmdppjfdphnaaGreatDoor
