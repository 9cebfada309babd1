/- The functions for which a help may be given. -/
import Derived.Test.YthnlkahgmbadoaaProg
import Derived.Test.YthnlkahgmbadoaaAmC
import Derived.Test.YthnlkahgmbadoaaFacts
import Derived.KernelRfl
namespace Go.Proofs.Ythnlkahgmbadoaa
open Go.RowKit
/-- functions for which a help may be given: the examples of the chapters -/
def helped : List Nat := [8, 9, 41]
def Clear (O : Helps) : Prop := ∀ f, f ∉ helped → O f = none
end Go.Proofs.Ythnlkahgmbadoaa
