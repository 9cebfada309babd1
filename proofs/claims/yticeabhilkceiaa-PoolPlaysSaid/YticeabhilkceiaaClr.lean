/- The functions for which a help may be given. -/
import Derived.Test.YticeabhilkceiaaProg
import Derived.Test.YticeabhilkceiaaAmC
import Derived.Test.YticeabhilkceiaaFacts
import Derived.KernelRfl
namespace Go.Proofs.Yticeabhilkceiaa
open Go.RowKit
/-- functions for which a help may be given: the examples of the chapters -/
def helped : List Nat := [6]
def Clear (O : Helps) : Prop := ∀ f, f ∉ helped → O f = none
end Go.Proofs.Yticeabhilkceiaa
