/- LibGoes: its helps: Number at its two names, and the chapter's examples. -/
import Derived.Test.YtdfadipfhcikdaaGreatDoorGoLaw3
import Derived.Test.YtdfadipfhcikdaaGreatDoorStrJ
import Derived.Test.YtdfadipfhcikdaaGreatDoorAmGuestV
import Derived.KernelRfl
set_option linter.unusedSimpArgs false
set_option linter.unusedVariables false
namespace Go.Proofs.YtdfadipfhcikdaaGreatDoor
open Go.RowKit
theorem mixedG : Tryz.prog.follows .mixedOrders = true := by kernel_rfl
theorem num12 : oCall Tryz.prog [] noHelp 300 9 [.string ⟨#[112, 97, 105, 114, 115]⟩] emptyH = some (.int .i64 12, emptyH) := by kernel_rfl
theorem num13 : oCall Tryz.prog [] noHelp 300 9 [.string ⟨#[105, 112, 97, 105, 114, 115]⟩] emptyH = some (.int .i64 13, emptyH) := by kernel_rfl
theorem num_any {s : ByteArray} {k : Int} (h : oCall Tryz.prog [] noHelp 300 9 [.string s] emptyH = some (.int .i64 k, emptyH)) (w : World) : Calls Tryz.prog 9 #[.string s] w fun e w' => e = .returned (.int .i64 k) ∧ Below w.heap.size w w' := by
  obtain ⟨_, hs⟩ := oCall_sound (noHelp_sound _ _) mixedG 300 9 [.string s] emptyH (.int .i64 k) emptyH h emptyH_wf
  refine (hs (fun _ => none) w _ (emptyH_rel w) (fun g hg => (by cases hg)) ⟨rfl, fun j x y hx hy => by
    rw [hx] at hy; cases hy
    exact (flat_vr (List.all_eq_true.1 (show [Value.string s].all flat = true from rfl) x (List.mem_of_getElem? hx)) _).1⟩).mono fun e w' hh => ?_
  obtain ⟨v', β', rfl, h1, h2, _⟩ := hh
  cases h1
  exact ⟨rfl, h2.below (fun i s hi => by cases hi)⟩
theorem bytes_of {s : ByteArray} {l : List UInt8} (h : s.data.toList = l) : s = ⟨l.toArray⟩ := by
  cases s with
  | mk d => congr 1; exact Array.toList_inj.1 h
theorem num_owed {gs : List Nat} {args : List Value} {v : Value} {H H' : AHeap} (h : numFn args H = some (v, H')) : Owed Tryz.prog gs 9 args H v H' := by
  unfold numFn at h
  split at h
  · rename_i s
    split at h
    · rename_i e
      cases h
      have := bytes_of e; subst this
      exact quiet_owed rfl rfl fun β w hr hg => num_any num12 w
    · split at h
      · rename_i e
        cases h
        have := bytes_of e; subst this
        exact quiet_owed rfl rfl fun β w hr hg => num_any num13 w
      · cases h
  · cases h
def goO0 : Helps := orHelp insO (oneHelp 67 joinFn)
theorem goO0_sound : CallSound Tryz.prog [] (helpFn goO0) := orHelp_sound insO_sound (oneHelp_sound join_owed)
end Go.Proofs.YtdfadipfhcikdaaGreatDoor
