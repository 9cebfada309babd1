/- LibInstalls: classes of heap sizes, one run each. -/
import Derived.Test.YtmkmdppjfdphnaaGreatDoorLiB
namespace Go.Proofs.YtmkmdppjfdphnaaGreatDoor
open Go.RowKit
theorem li_3_4 : liRun 3 4 = true := by kernel_rfl
theorem li_11_11 : liRun 11 11 = true := by kernel_rfl
theorem li_18_19 : liRun 18 19 = true := by kernel_rfl
theorem li_32_32 : liRun 32 32 = true := by kernel_rfl
theorem li_38_38 : liRun 38 38 = true := by kernel_rfl
theorem li_48_49 : liRun 48 49 = true := by kernel_rfl
theorem li_56_56 : liRun 56 56 = true := by kernel_rfl
theorem li_67_67 : liRun 67 67 = true := by kernel_rfl
theorem li_71_72 : liRun 71 72 = true := by kernel_rfl
theorem li_79_80 : liRun 79 80 = true := by kernel_rfl
theorem li_92_92 : liRun 92 92 = true := by kernel_rfl
theorem li_102_103 : liRun 102 103 = true := by kernel_rfl
theorem li_104_104 : liRun 104 104 = true := by kernel_rfl
end Go.Proofs.YtmkmdppjfdphnaaGreatDoor
