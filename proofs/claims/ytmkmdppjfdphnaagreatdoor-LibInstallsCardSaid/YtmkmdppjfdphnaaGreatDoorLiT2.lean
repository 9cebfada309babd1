/- LibInstalls: classes of heap sizes, one run each. -/
import Derived.Test.YtmkmdppjfdphnaaGreatDoorLiB
namespace Go.Proofs.YtmkmdppjfdphnaaGreatDoor
open Go.RowKit
theorem li_14_14 : liRun 14 14 = true := by kernel_rfl
theorem li_21_22 : liRun 21 22 = true := by kernel_rfl
theorem li_29_29 : liRun 29 29 = true := by kernel_rfl
theorem li_39_40 : liRun 39 40 = true := by kernel_rfl
theorem li_47_47 : liRun 47 47 = true := by kernel_rfl
theorem li_57_57 : liRun 57 57 = true := by kernel_rfl
theorem li_64_64 : liRun 64 64 = true := by kernel_rfl
theorem li_74_74 : liRun 74 74 = true := by kernel_rfl
theorem li_75_75 : liRun 75 75 = true := by kernel_rfl
theorem li_84_84 : liRun 84 84 = true := by kernel_rfl
theorem li_88_88 : liRun 88 88 = true := by kernel_rfl
theorem li_89_89 : liRun 89 89 = true := by kernel_rfl
theorem li_96_97 : liRun 96 97 = true := by kernel_rfl
theorem li_110_110 : liRun 110 110 = true := by kernel_rfl
end Go.Proofs.YtmkmdppjfdphnaaGreatDoor
