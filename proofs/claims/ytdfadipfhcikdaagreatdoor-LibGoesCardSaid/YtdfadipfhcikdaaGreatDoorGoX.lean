/- LibGoes: whatever is handed in, the law answers true. -/
import Derived.Test.YtdfadipfhcikdaaGreatDoorGoLaw9
import Derived.Test.YtdfadipfhcikdaaGreatDoorGoB
namespace Go.Proofs.YtdfadipfhcikdaaGreatDoor
open Go.RowKit
theorem awakeG_any (w : World) : Calls Tryz.prog 11 #[] w fun e w' => e = .returned (.bool true) ∧ Below w.heap.size w w' := by
  have h := awakeG_all
  unfold okTrue at h
  split at h
  · rename_i H' hr
    obtain ⟨_, hs⟩ := oCall_sound goO0_sound mixedG 400 11 [] emptyH (.bool true) H' hr emptyH_wf
    refine (hs (fun _ => none) w [] (emptyH_rel w) (fun g hg => (by cases hg)) ⟨rfl, fun j x y hx hy => by simp at hx⟩).mono fun e w' hh => ?_
    obtain ⟨v', β', rfl, h1, h2, _⟩ := hh
    cases h1
    exact ⟨rfl, h2.below (fun i s hi => (by cases hi))⟩
  · cases h
def O17 : Helps := orHelp (flatHelp 11 (.bool true)) (oneHelp 9 numFn)
theorem O17_sound : CallSound Tryz.prog [] (helpFn O17) := orHelp_sound (flatHelp_sound rfl awakeG_any) (oneHelp_sound num_owed)
theorem beq_no {a b : Nat} (h : a ≠ b) : Nat.beq a b = false := by rw [← Bool.not_eq_true, Nat.beq_eq]; exact h
theorem awake17_ok {n : Nat} (o : Tr AObj) (nx : Nat) (lg : List Nat) : oCall Tryz.prog [] O17 (n + 1) 11 [] ⟨o, nx, lg⟩ = some (.bool true, ⟨o, nx, lg⟩) := by
  have e : O17 11 = some fun args H => cond args.isEmpty (some (.bool true, H)) none := rfl
  simp only [oCall, e]; rfl
theorem num17 : O17 9 = some numFn := rfl
theorem clear17 : Clear O17 := fun f hf => by
  have h1 : f ≠ 11 := fun e => hf (by rw [e]; decide)
  have h2 : f ≠ 9 := fun e => hf (by rw [e]; decide)
  unfold O17 orHelp oneHelp flatHelp
  rw [beq_no h1, beq_no h2]; rfl
theorem goes_walk (a : Option Addr) (len cap : Nat) (bs : List Bool) (hl : bs.length = len) (w : World) (hr : CellRow w a len cap (bs.map Value.bool)) :
    Calls Tryz.prog 3 #[.slice a len cap] w fun e w' => e = .returned (.bool true) ∧ Below w.heap.size w w' := by
  subst hl
  refine true_of_v O17_sound mixedG 10000 _ [.sl a bs.length cap (bs.map Value.bool)] w (fun g hg => ?_) (goes_run clear17 num17 (fun o nx lg => awake17_ok (n := 9998) o nx lg) bs _ ?_ _ ((vH_get [.sl a bs.length cap (bs.map Value.bool)] 0).trans rfl))
  · simp only [List.mem_cons, List.not_mem_nil, or_false] at hg
    subst hg
    refine ⟨hr, ?_⟩
    rw [List.all_eq_true]
    intro v hv
    obtain ⟨y, _, rfl⟩ := List.mem_map.1 hv
    rfl
  · rcases hr with ⟨_, h, _⟩ | ⟨x, rfl, _⟩
    · exact .inr (List.length_eq_zero_iff.1 h)
    · exact .inl rfl
end Go.Proofs.YtdfadipfhcikdaaGreatDoor
