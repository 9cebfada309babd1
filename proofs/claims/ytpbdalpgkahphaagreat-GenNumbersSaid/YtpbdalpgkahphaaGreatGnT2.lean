/- GenNumbers: rounds of the function texts. -/
import Derived.Test.YtpbdalpgkahphaaGreatGnS
import Derived.KernelRfl
set_option linter.unusedSimpArgs false
set_option linter.unusedVariables false
namespace Go.Proofs.YtpbdalpgkahphaaGreat
open Go.RowKit
theorem tx_a3 : kCut [18, 20, 14440, 17220, 17576, 17617, 17646, 17658, 17946, 18007, 18048] (tPre tk_s3 th_s3) = .on tk_m3 th_m3 := by kernel_rfl
theorem tx_b3 : kCut [18, 20] (tPost tk_m3 th_m3) = .on tk_s4 th_s4 := by kernel_rfl
theorem tx_a4 : kCut [18, 20, 18332, 25217, 25508, 25695, 25847, 26173, 26214, 26505, 26873, 26914, 27203, 27296, 27448, 27489, 27518, 27530, 27574] (tPre tk_s4 th_s4) = .on tk_m4 th_m4 := by kernel_rfl
theorem tx_b4 : kCut [18, 20] (tPost tk_m4 th_m4) = .on tk_s5 th_s5 := by kernel_rfl
theorem tx_a5 : kCut [18, 20, 27858, 31926, 32217, 32578, 32619, 32771, 33136, 33177, 33218, 33259, 33300, 33329, 33341, 33385] (tPre tk_s5 th_s5) = .on tk_m5 th_m5 := by kernel_rfl
theorem tx_b5 : kCut [18, 20] (tPost tk_m5 th_m5) = .on tk_s6 th_s6 := by kernel_rfl
end Go.Proofs.YtpbdalpgkahphaaGreat
