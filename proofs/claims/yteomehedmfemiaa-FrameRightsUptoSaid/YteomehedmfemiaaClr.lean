/- The functions for which a help may be given. -/
import Derived.Test.YteomehedmfemiaaProg
import Derived.Test.YteomehedmfemiaaAmC
import Derived.Test.YteomehedmfemiaaFacts
import Derived.KernelRfl
namespace Go.Proofs.Yteomehedmfemiaa
open Go.RowKit
/-- functions for which a help may be given: the examples of the chapters -/
def helped : List Nat := [7, 18]
def Clear (O : Helps) : Prop := ∀ f, f ∉ helped → O f = none
end Go.Proofs.Yteomehedmfemiaa
