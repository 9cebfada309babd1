/- Bytes: plain. -/
import Derived.Test.YtedfjfpnpncgkaaDoorAmC
namespace Go.Proofs.YtedfjfpnpncgkaaDoor
open Go.RowKit
set_option linter.unusedSimpArgs false
set_option linter.unusedVariables false
def bv (b : UInt8) : Value := .int .u8 (Int.ofNat b.toNat)
def withinI (lo b hi : Int) : Bool := decide (lo ≤ b) && decide (b ≤ hi)
def spaceB (b : UInt8) : Bool := decide (Int.ofNat b.toNat = 32) || withinI 9 (Int.ofNat b.toNat) 13
def digitB (b : UInt8) : Bool := withinI 48 (Int.ofNat b.toNat) 57
def hexB (b : UInt8) : Int × Bool := if digitB b then (Int.ofNat b.toNat - 48, true) else if withinI 97 (Int.ofNat b.toNat) 102 then (Int.ofNat b.toNat - 87, true) else if withinI 65 (Int.ofNat b.toNat) 70 then (Int.ofNat b.toNat - 55, true) else (0, false)
theorem byte_lt (b : UInt8) : 0 ≤ Int.ofNat b.toNat ∧ Int.ofNat b.toNat ≤ 255 := by have := b.toNat_lt; simp; omega
end Go.Proofs.YtedfjfpnpncgkaaDoor
