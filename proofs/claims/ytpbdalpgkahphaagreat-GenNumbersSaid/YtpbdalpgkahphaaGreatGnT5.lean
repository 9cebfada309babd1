/- GenNumbers: rounds of the function texts. -/
import Derived.Test.YtpbdalpgkahphaaGreatGnS
import Derived.KernelRfl
set_option linter.unusedSimpArgs false
set_option linter.unusedVariables false
namespace Go.Proofs.YtpbdalpgkahphaaGreat
open Go.RowKit
theorem tx_a12 : kCut [18, 20, 58112, 61012, 61595, 61824, 62092, 62133, 62162, 62174, 62218] (tPre tk_s12 th_s12) = .on tk_m12 th_m12 := by kernel_rfl
theorem tx_b12 : kCut [18, 20] (tPost tk_m12 th_m12) = .on tk_s13 th_s13 := by kernel_rfl
theorem tx_a13 : kCut [18, 20, 62510, 64510, 65064, 65157, 65186, 65198, 65241] (tPre tk_s13 th_s13) = .on tk_m13 th_m13 := by kernel_rfl
theorem tx_b13 : kCut [18, 20] (tPost tk_m13 th_m13) = .on tk_s14 th_s14 := by kernel_rfl
theorem tx_a14 : kCut [18, 20, 65525, 70784, 71369, 71549, 72199, 72292, 72720, 72761, 72802, 72843, 72884, 72913, 72925, 72968] (tPre tk_s14 th_s14) = .on tk_m14 th_m14 := by kernel_rfl
theorem tx_b14 : kCut [18, 20] (tPost tk_m14 th_m14) = .on tk_s15 th_s15 := by kernel_rfl
end Go.Proofs.YtpbdalpgkahphaaGreat
