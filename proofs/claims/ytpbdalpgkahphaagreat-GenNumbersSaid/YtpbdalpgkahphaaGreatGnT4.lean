/- GenNumbers: rounds of the function texts. -/
import Derived.Test.YtpbdalpgkahphaaGreatGnS
import Derived.KernelRfl
set_option linter.unusedSimpArgs false
set_option linter.unusedVariables false
namespace Go.Proofs.YtpbdalpgkahphaaGreat
open Go.RowKit
theorem tx_a9 : kCut [18, 20, 45481, 49322, 49875, 49916, 50169, 50322, 50651, 51022, 51063, 51092, 51104, 51301] (tPre tk_s9 th_s9) = .on tk_m9 th_m9 := by kernel_rfl
theorem tx_b9 : kCut [18, 20] (tPost tk_m9 th_m9) = .on tk_s10 th_s10 := by kernel_rfl
theorem tx_a10 : kCut [18, 20, 51692, 54901, 55246, 55513, 55760, 55801, 55830, 55842, 55881, 55942, 55983] (tPre tk_s10 th_s10) = .on tk_m10 th_m10 := by kernel_rfl
theorem tx_b10 : kCut [18, 20] (tPost tk_m10 th_m10) = .on tk_s11 th_s11 := by kernel_rfl
theorem tx_a11 : kCut [18, 20, 56267, 57520, 57764, 57776, 57820] (tPre tk_s11 th_s11) = .on tk_m11 th_m11 := by kernel_rfl
theorem tx_b11 : kCut [18, 20] (tPost tk_m11 th_m11) = .on tk_s12 th_s12 := by kernel_rfl
end Go.Proofs.YtpbdalpgkahphaaGreat
