/- GenNumbers: rounds of the function texts. -/
import Derived.Test.YtpbdalpgkahphaaGreatGnS
import Derived.KernelRfl
set_option linter.unusedSimpArgs false
set_option linter.unusedVariables false
namespace Go.Proofs.YtpbdalpgkahphaaGreat
open Go.RowKit
theorem tx_a15 : kCut [18, 20, 73252, 75279, 75340, 75422, 75745, 75788, 75800, 75844, 75971, 75983, 76027] (tPre tk_s15 th_s15) = .on tk_m15 th_m15 := by kernel_rfl
theorem tx_b15 : kCut [18, 20] (tPost tk_m15 th_m15) = .on tk_s16 th_s16 := by kernel_rfl
theorem tx_a16 : kCut [18, 20, 76360, 78340, 78727, 78768, 78807, 78868, 78971, 78983, 79122] (tPre tk_s16 th_s16) = .on tk_m16 th_m16 := by kernel_rfl
theorem tx_b16 : kCut [18, 20] (tPost tk_m16 th_m16) = .on tk_s17 th_s17 := by kernel_rfl
theorem tx_a17 : kCut [18, 20, 79496, 83794, 84112, 84500, 84541, 85198, 85239, 85649, 85690, 85719, 85731, 86074] (tPre tk_s17 th_s17) = .on tk_m17 th_m17 := by kernel_rfl
theorem tx_b17 : kCut [18, 20] (tPost tk_m17 th_m17) = .on tk_s18 th_s18 := by kernel_rfl
end Go.Proofs.YtpbdalpgkahphaaGreat
