/- GenNumbers: rounds of the function texts. -/
import Derived.Test.YtpbdalpgkahphaaGreatGnS
import Derived.KernelRfl
set_option linter.unusedSimpArgs false
set_option linter.unusedVariables false
namespace Go.Proofs.YtpbdalpgkahphaaGreat
open Go.RowKit
theorem tx_h : kCut [18, 20] tHead = .on tk_s0 th_s0 := by kernel_rfl
theorem tx_a0 : kCut [18, 20, 29, 4244, 4712, 5160, 5431, 5758, 6089, 6130, 6211, 6223, 6267] (tPre tk_s0 th_s0) = .on tk_m0 th_m0 := by kernel_rfl
theorem tx_b0 : kCut [18, 20] (tPost tk_m0 th_m0) = .on tk_s1 th_s1 := by kernel_rfl
theorem tx_a1 : kCut [18, 20, 6551, 9980, 10448, 10788, 11337, 11539, 11580, 11621, 11678, 11690, 11734] (tPre tk_s1 th_s1) = .on tk_m1 th_m1 := by kernel_rfl
theorem tx_b1 : kCut [18, 20] (tPost tk_m1 th_m1) = .on tk_s2 th_s2 := by kernel_rfl
theorem tx_a2 : kCut [18, 20, 12018, 13657, 13837, 13849, 14054, 14115, 14156] (tPre tk_s2 th_s2) = .on tk_m2 th_m2 := by kernel_rfl
theorem tx_b2 : kCut [18, 20] (tPost tk_m2 th_m2) = .on tk_s3 th_s3 := by kernel_rfl
end Go.Proofs.YtpbdalpgkahphaaGreat
