/- The functions for which a help may be given. -/
import Derived.Test.YtckgdalbdeeimaaProg
import Derived.Test.YtckgdalbdeeimaaAmC
import Derived.Test.YtckgdalbdeeimaaFacts
import Derived.KernelRfl
namespace Go.Proofs.Ytckgdalbdeeimaa
open Go.RowKit
/-- functions for which a help may be given: the examples of the chapters -/
def helped : List Nat := [9, 10, 29, 53, 57]
def Clear (O : Helps) : Prop := ∀ f, f ∉ helped → O f = none
end Go.Proofs.Ytckgdalbdeeimaa
