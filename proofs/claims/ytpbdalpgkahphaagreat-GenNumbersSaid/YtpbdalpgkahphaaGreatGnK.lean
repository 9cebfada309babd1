/- GenNumbers: the law. -/
import Derived.Test.YtpbdalpgkahphaaGreatGnTx
set_option linter.unusedSimpArgs false
set_option linter.unusedVariables false
namespace Go.Proofs.YtpbdalpgkahphaaGreat
open Go.RowKit
def O10 : Helps := orHelp (flatHelp 9 (.bool true)) (flatHelp 8 (.bool true))
theorem O10_sound : CallSound Tryz.prog [] (helpFn O10) := orHelp_sound (flatHelp_sound rfl genAwake_any) (flatHelp_sound rfl texts_any)
theorem genNumbers_all : kTrue (runG O10 3 [] emptyH) = true := by kernel_rfl
theorem genNumbers_walk (w : World) : Calls Tryz.prog 3 #[] w fun e w' => e = .returned (.bool true) ∧ Below w.heap.size w w' :=
  true_of_k O10_sound mixedG okG_chk okG_code 400 3 [] rfl genNumbers_all w
end Go.Proofs.YtpbdalpgkahphaaGreat
