/- GenNumbers: the checks, and the chapter's examples. -/
import Derived.Test.YtpbdalpgkahphaaGreatAmSeg2
import Derived.Test.YtpbdalpgkahphaaGreatProg
import Derived.KernelRfl
set_option linter.unusedSimpArgs false
set_option linter.unusedVariables false
namespace Go.Proofs.YtpbdalpgkahphaaGreat
open Go.RowKit
theorem mixedG : Tryz.prog.follows .mixedOrders = true := by kernel_rfl
def okG (f : Nat) : Bool := Nat.ble 2 f && Nat.ble f 219
theorem okG_all : ((List.range 218).all fun j => chkFn Tryz.prog [] (2 + j)) = true := by kernel_rfl
theorem okG_chk (f : Nat) (h : okG f = true) : chkFn Tryz.prog [] f = true := by
  simp only [okG, Bool.and_eq_true, Nat.ble_eq] at h
  have := List.all_eq_true.1 okG_all (f - 2) (List.mem_range.2 (by omega))
  rwa [show 2 + (f - 2) = f by omega] at this
theorem okG_codes : ((List.range 218).all fun j => codeOf Tryz.prog (2 + j)) = true := by kernel_rfl
theorem okG_code (f : Nat) (h : okG f = true) : codeOf Tryz.prog f = true := by
  simp only [okG, Bool.and_eq_true, Nat.ble_eq] at h
  have := List.all_eq_true.1 okG_codes (f - 2) (List.mem_range.2 (by omega))
  rwa [show 2 + (f - 2) = f by omega] at this
noncomputable def runG (O : Helps) : CallFn := kRun Tryz.prog O okG 400
theorem fitG {O : Helps} (ho : CallSound Tryz.prog [] (helpFn O)) : Fit Tryz.prog okG (runG O) := ⟨okG_code, kRun_sound ho mixedG okG_chk okG_code 400, mixedG⟩
theorem genAwake_all : kTrue (runG noHelp 9 [] emptyH) = true := by kernel_rfl
theorem genAwake_any (w : World) : Calls Tryz.prog 9 #[] w fun e w' => e = .returned (.bool true) ∧ Below w.heap.size w w' :=
  true_of_k (noHelp_sound _ []) mixedG okG_chk okG_code 400 9 [] rfl genAwake_all w
end Go.Proofs.YtpbdalpgkahphaaGreat
