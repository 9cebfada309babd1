/- LibInstalls: classes of heap sizes, one run each. -/
import Derived.Test.YtmkmdppjfdphnaaGreatDoorLiB
namespace Go.Proofs.YtmkmdppjfdphnaaGreatDoor
open Go.RowKit
theorem li_6_7 : liRun 6 7 = true := by kernel_rfl
theorem li_8_8 : liRun 8 8 = true := by kernel_rfl
theorem li_24_25 : liRun 24 25 = true := by kernel_rfl
theorem li_26_26 : liRun 26 26 = true := by kernel_rfl
theorem li_42_43 : liRun 42 43 = true := by kernel_rfl
theorem li_44_44 : liRun 44 44 = true := by kernel_rfl
theorem li_59_60 : liRun 59 60 = true := by kernel_rfl
theorem li_61_61 : liRun 61 61 = true := by kernel_rfl
theorem li_76_76 : liRun 76 76 = true := by kernel_rfl
theorem li_82_83 : liRun 82 83 = true := by kernel_rfl
theorem li_90_90 : liRun 90 90 = true := by kernel_rfl
theorem li_99_100 : liRun 99 100 = true := by kernel_rfl
theorem li_107_107 : liRun 107 107 = true := by kernel_rfl
end Go.Proofs.YtmkmdppjfdphnaaGreatDoor
