/- The functions for which a help may be given. -/
import Derived.Test.YtleafaodppcfdaaProg
import Derived.Test.YtleafaodppcfdaaAmC
import Derived.Test.YtleafaodppcfdaaFacts
import Derived.KernelRfl
namespace Go.Proofs.Ytleafaodppcfdaa
open Go.RowKit
/-- functions for which a help may be given: the examples of the chapters -/
def helped : List Nat := [11, 17, 24, 50]
def Clear (O : Helps) : Prop := ∀ f, f ∉ helped → O f = none
end Go.Proofs.Ytleafaodppcfdaa
