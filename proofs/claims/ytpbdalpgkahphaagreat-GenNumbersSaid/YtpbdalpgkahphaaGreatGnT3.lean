/- GenNumbers: rounds of the function texts. -/
import Derived.Test.YtpbdalpgkahphaaGreatGnS
import Derived.KernelRfl
set_option linter.unusedSimpArgs false
set_option linter.unusedVariables false
namespace Go.Proofs.YtpbdalpgkahphaaGreat
open Go.RowKit
theorem tx_a6 : kCut [18, 20, 33669, 36022, 36347, 36359, 36612, 36761, 36841, 37100] (tPre tk_s6 th_s6) = .on tk_m6 th_m6 := by kernel_rfl
theorem tx_b6 : kCut [18, 20] (tPost tk_m6 th_m6) = .on tk_s7 th_s7 := by kernel_rfl
theorem tx_a7 : kCut [18, 20, 37468, 39732, 40129, 40170, 40199, 40211, 40464, 40613, 40693, 40952] (tPre tk_s7 th_s7) = .on tk_m7 th_m7 := by kernel_rfl
theorem tx_b7 : kCut [18, 20] (tPost tk_m7 th_m7) = .on tk_s8 th_s8 := by kernel_rfl
theorem tx_a8 : kCut [18, 20, 41320, 43935, 44331, 44360, 44372, 44625, 44774, 44854, 45113] (tPre tk_s8 th_s8) = .on tk_m8 th_m8 := by kernel_rfl
theorem tx_b8 : kCut [18, 20] (tPost tk_m8 th_m8) = .on tk_s9 th_s9 := by kernel_rfl
end Go.Proofs.YtpbdalpgkahphaaGreat
