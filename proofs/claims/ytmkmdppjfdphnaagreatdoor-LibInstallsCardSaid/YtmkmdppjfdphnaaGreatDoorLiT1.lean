/- LibInstalls: classes of heap sizes, one run each. -/
import Derived.Test.YtmkmdppjfdphnaaGreatDoorLiB
namespace Go.Proofs.YtmkmdppjfdphnaaGreatDoor
open Go.RowKit
theorem li_15_16 : liRun 15 16 = true := by kernel_rfl
theorem li_20_20 : liRun 20 20 = true := by kernel_rfl
theorem li_30_31 : liRun 30 31 = true := by kernel_rfl
theorem li_36_37 : liRun 36 37 = true := by kernel_rfl
theorem li_50_50 : liRun 50 50 = true := by kernel_rfl
theorem li_54_54 : liRun 54 54 = true := by kernel_rfl
theorem li_55_55 : liRun 55 55 = true := by kernel_rfl
theorem li_68_69 : liRun 68 69 = true := by kernel_rfl
theorem li_70_70 : liRun 70 70 = true := by kernel_rfl
theorem li_85_86 : liRun 85 86 = true := by kernel_rfl
theorem li_87_87 : liRun 87 87 = true := by kernel_rfl
theorem li_95_95 : liRun 95 95 = true := by kernel_rfl
theorem li_111_112 : liRun 111 112 = true := by kernel_rfl
end Go.Proofs.YtmkmdppjfdphnaaGreatDoor
