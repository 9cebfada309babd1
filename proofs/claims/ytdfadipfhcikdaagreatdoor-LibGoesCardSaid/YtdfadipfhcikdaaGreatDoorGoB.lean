/- LibGoes: the chapter's examples. -/
import Derived.Test.YtdfadipfhcikdaaGreatDoorGoA
namespace Go.Proofs.YtdfadipfhcikdaaGreatDoor
open Go.RowKit
theorem awakeG_all : okTrue (oCall Tryz.prog [] goO0 400 11 [] emptyH) = true := by kernel_rfl
end Go.Proofs.YtdfadipfhcikdaaGreatDoor
