/- LibInstalls: classes of heap sizes, one run each. -/
import Derived.Test.YtmkmdppjfdphnaaGreatDoorLiB
namespace Go.Proofs.YtmkmdppjfdphnaaGreatDoor
open Go.RowKit
theorem li_5_5 : liRun 5 5 = true := by kernel_rfl
theorem li_9_10 : liRun 9 10 = true := by kernel_rfl
theorem li_23_23 : liRun 23 23 = true := by kernel_rfl
theorem li_27_28 : liRun 27 28 = true := by kernel_rfl
theorem li_41_41 : liRun 41 41 = true := by kernel_rfl
theorem li_45_46 : liRun 45 46 = true := by kernel_rfl
theorem li_58_58 : liRun 58 58 = true := by kernel_rfl
theorem li_62_63 : liRun 62 63 = true := by kernel_rfl
theorem li_77_77 : liRun 77 77 = true := by kernel_rfl
theorem li_81_81 : liRun 81 81 = true := by kernel_rfl
theorem li_91_91 : liRun 91 91 = true := by kernel_rfl
theorem li_98_98 : liRun 98 98 = true := by kernel_rfl
theorem li_108_109 : liRun 108 109 = true := by kernel_rfl
end Go.Proofs.YtmkmdppjfdphnaaGreatDoor
