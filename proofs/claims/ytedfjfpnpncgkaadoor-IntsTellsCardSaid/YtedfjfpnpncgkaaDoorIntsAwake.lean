/- The chapter's fixed examples, by the machine. -/
import Derived.Test.YtedfjfpnpncgkaaDoorIntsTop
namespace Go.Proofs.YtedfjfpnpncgkaaDoor
open Go.RowKit
set_option linter.unusedSimpArgs false
set_option linter.unusedVariables false
theorem awake_run (t te tr : TypeId) : okTrue (oCall Tryd.prog gs2 O1 60 5 [] (H0 t te tr)) = true := by kernel_rfl
theorem awake_any (w : World) (hL : Laid w) : Calls Tryd.prog 5 #[] w fun e w' => e = .returned (.bool true) ∧ Below w.heap.size w w' := true_of_o O1_sound 60 _ [] rfl w hL awake_run
def awakeHelp (args : List Value) (H : AHeap) : Option (Value × AHeap) := cond (args.isEmpty && (hasTab H && (hasErr 0 H && hasErr 1 H))) (some (.bool true, H)) none
def awakeO : Helps := fun f => cond (Nat.beq f 5) (some awakeHelp) none
def O2 : Helps := orHelp O1 awakeO
theorem O2_sound : CallSound Tryd.prog gs2 (helpFn O2) := orHelp_sound O1_sound fun f args H v H' h hwf => by
  unfold helpFn awakeO at h
  cases hf : Nat.beq f 5 with
  | false => rw [hf] at h; cases h
  | true =>
    have hf' := Nat.eq_of_beq_eq_true hf
    subst hf'
    simp only [Nat.beq_refl, cond] at h
    unfold awakeHelp at h
    cases hc : (args.isEmpty && (hasTab H && (hasErr 0 H && hasErr 1 H))) with
    | false => rw [hc] at h; cases h
    | true =>
      rw [hc] at h
      simp only [cond, Option.some.injEq, Prod.mk.injEq] at h
      obtain ⟨rfl, rfl⟩ := h
      rw [Bool.and_eq_true] at hc
      have ha : args = [] := List.isEmpty_iff.1 hc.1
      subst ha
      exact quiet_owed rfl rfl fun β w hr hg => awake_any w (laid_rel hr hg hc.2)
end Go.Proofs.YtedfjfpnpncgkaaDoor
