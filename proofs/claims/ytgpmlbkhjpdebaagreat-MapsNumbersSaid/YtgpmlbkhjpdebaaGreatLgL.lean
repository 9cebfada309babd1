/- MapsNumbers: the machine answers true. -/
import Derived.Test.YtgpmlbkhjpdebaaGreatLgH
import Derived.Test.YtgpmlbkhjpdebaaGreatAmQ
import Derived.Test.YtgpmlbkhjpdebaaGreatProg
import Derived.KernelRfl
set_option linter.unusedSimpArgs false
set_option linter.unusedVariables false
namespace Go.Proofs.YtgpmlbkhjpdebaaGreat
open Go.RowKit
theorem mixedM : Tryz.prog.follows .mixedOrders = true := by kernel_rfl
def okM (f : Nat) : Bool := Nat.ble 2 f && Nat.ble f 163
theorem okM_all : ((List.range 162).all fun j => chkFn Tryz.prog [] (2 + j)) = true := by kernel_rfl
theorem okM_chk (f : Nat) (h : okM f = true) : chkFn Tryz.prog [] f = true := by
  simp only [okM, Bool.and_eq_true, Nat.ble_eq] at h
  have := List.all_eq_true.1 okM_all (f - 2) (List.mem_range.2 (by omega))
  rwa [show 2 + (f - 2) = f by omega] at this
theorem true_of_q {P : Program} {O : Helps} {ok : Nat → Bool} (ho : CallSound P [] (helpFn O)) (hm : P.follows .mixedOrders = true) (hok : ∀ f, ok f = true → chkFn P [] f = true) (n : Nat) (f : FuncId) (args : List Value) (hf : args.all flat = true) (h : okTrue (qCall P O ok n f args emptyH) = true) (w : World) : Calls P f args.toArray w fun e w' => e = .returned (.bool true) ∧ Below w.heap.size w w' := by
  unfold okTrue at h
  split at h
  · rename_i H' hr
    obtain ⟨_, hs⟩ := qCall_sound ho hm hok n f args emptyH (.bool true) H' hr emptyH_wf
    refine (hs _ w args (emptyH_rel w) (fun g hg => (by cases hg)) ⟨rfl, fun j x y hx hy => ?_⟩).mono fun e w' hh => ?_
    · rw [hx] at hy; cases hy
      exact (flat_vr (List.all_eq_true.1 hf x (List.mem_of_getElem? hx)) _).1
    · obtain ⟨v', β', rfl, h1, h2, _⟩ := hh
      cases h1
      exact ⟨rfl, h2.below (fun i s hi => (by cases hi))⟩
  · cases h
end Go.Proofs.YtgpmlbkhjpdebaaGreat
