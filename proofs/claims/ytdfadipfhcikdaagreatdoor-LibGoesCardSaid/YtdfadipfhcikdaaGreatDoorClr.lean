/- The functions for which a help may be given. -/
import Derived.Test.YtdfadipfhcikdaaGreatDoorProg
import Derived.Test.YtdfadipfhcikdaaGreatDoorAmC
import Derived.Test.YtdfadipfhcikdaaGreatDoorFacts
import Derived.KernelRfl
namespace Go.Proofs.YtdfadipfhcikdaaGreatDoor
open Go.RowKit
/-- functions for which a help may be given: the examples of the chapters -/
def helped : List Nat := [9, 11]
def Clear (O : Helps) : Prop := ∀ f, f ∉ helped → O f = none
end Go.Proofs.YtdfadipfhcikdaaGreatDoor
