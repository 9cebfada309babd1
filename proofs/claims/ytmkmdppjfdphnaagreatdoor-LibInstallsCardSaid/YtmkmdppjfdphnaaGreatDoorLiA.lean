/- LibInstalls: the checks, and the chapter's examples. -/
import Derived.Test.YtmkmdppjfdphnaaGreatDoorAmK5
import Derived.Test.YtmkmdppjfdphnaaGreatDoorStrH
import Derived.Test.YtmkmdppjfdphnaaGreatDoorProg
import Derived.KernelRfl
set_option linter.unusedSimpArgs false
set_option linter.unusedVariables false
namespace Go.Proofs.YtmkmdppjfdphnaaGreatDoor
open Go.RowKit
theorem mixedL : Tryz.prog.follows .mixedOrders = true := by kernel_rfl
/-- the functions that the machine does not run -/
def notL : List Nat := [83, 113, 137, 149, 151, 152, 154, 155, 159]
def okL (f : Nat) : Bool := Nat.ble 2 f && (Nat.ble f 174 && !(okIn notL f))
theorem okL_all : ((List.range 173).all fun j => !(okL (2 + j)) || (chkFn Tryz.prog [] (2 + j) && codeOf Tryz.prog (2 + j))) = true := by kernel_rfl
theorem okL_both (f : Nat) (h : okL f = true) : chkFn Tryz.prog [] f = true ∧ codeOf Tryz.prog f = true := by
  have h0 := h
  simp only [okL, Bool.and_eq_true, Nat.ble_eq] at h
  have := List.all_eq_true.1 okL_all (f - 2) (List.mem_range.2 (by omega))
  rw [show 2 + (f - 2) = f by omega, h0] at this
  simpa using this
theorem okL_chk (f : Nat) (h : okL f = true) : chkFn Tryz.prog [] f = true := (okL_both f h).1
theorem okL_code (f : Nat) (h : okL f = true) : codeOf Tryz.prog f = true := (okL_both f h).2
def libO : Helps := orHelp insO (orHelp (oneHelp 92 joinFn) (oneHelp 83 idxFn))
theorem libO_sound : CallSound Tryz.prog [] (helpFn libO) := orHelp_sound insO_sound (orHelp_sound (oneHelp_sound join_owed) (oneHelp_sound idx_owed))
noncomputable def runL (O : Helps) : CallFn := kRun Tryz.prog O okL 400
theorem libAwake_all : kTrue (runL libO 7 [] emptyH) = true := by kernel_rfl
theorem libAwake_any (w : World) : Calls Tryz.prog 7 #[] w fun e w' => e = .returned (.bool true) ∧ Below w.heap.size w w' :=
  true_of_k libO_sound mixedL okL_chk okL_code 400 7 [] rfl libAwake_all w
end Go.Proofs.YtmkmdppjfdphnaaGreatDoor
