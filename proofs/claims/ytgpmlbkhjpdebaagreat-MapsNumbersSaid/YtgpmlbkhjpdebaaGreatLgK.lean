/- MapsNumbers: the ready machine answers true; so does the program. -/
import Derived.Test.YtgpmlbkhjpdebaaGreatLgL
import Derived.Test.YtgpmlbkhjpdebaaGreatAmK5
set_option linter.unusedSimpArgs false
set_option linter.unusedVariables false
namespace Go.Proofs.YtgpmlbkhjpdebaaGreat
open Go.RowKit
theorem okM_codes : ((List.range 162).all fun j => codeOf Tryz.prog (2 + j)) = true := by kernel_rfl
theorem okM_code (f : Nat) (h : okM f = true) : codeOf Tryz.prog f = true := by
  simp only [okM, Bool.and_eq_true, Nat.ble_eq] at h
  have := List.all_eq_true.1 okM_codes (f - 2) (List.mem_range.2 (by omega))
  rwa [show 2 + (f - 2) = f by omega] at this
theorem mapsNumbers_all : kTrue (kRun Tryz.prog longO okM 300 3 [] emptyH) = true := by kernel_rfl
theorem mapsNumbers_walk (w : World) : Calls Tryz.prog 3 #[] w fun e w' => e = .returned (.bool true) ∧ Below w.heap.size w w' :=
  true_of_k long_sound mixedM okM_chk okM_code 300 3 [] rfl mapsNumbers_all w
end Go.Proofs.YtgpmlbkhjpdebaaGreat
