/- LibInstalls: a bounded number that is not told, handed in; the greatest of its classes. -/
import Derived.Test.YtmkmdppjfdphnaaGreatDoorLiA
set_option linter.unusedSimpArgs false
set_option linter.unusedVariables false
namespace Go.Proofs.YtmkmdppjfdphnaaGreatDoor
open Go.RowKit
def liO : Helps := orHelp (flatHelp 7 (.bool true)) (orHelp (oneHelp 4 wideFn) libO)
theorem liO_sound : CallSound Tryz.prog [] (helpFn liO) := orHelp_sound (flatHelp_sound rfl libAwake_any) (orHelp_sound (oneHelp_sound wide_owed) libO_sound)
def liArg (lo hi : Nat) : Value := .float .f32 (1048576 * (lo + 1048576 * hi))
def liH : AHeap := { objs := .nil, next := 1, log := [] }
def liRen (tot : Nat) : Ren := fun i => if i = 0 then some ⟨0, 0, 0, tot, false⟩ else none
noncomputable def liRun (lo hi : Nat) : Bool := kTrue (runL liO 3 [.float .f32 (1048576 * (lo + 1048576 * hi))] liH)
theorem li_of_run {lo hi : Nat} (h : liRun lo hi = true) (h1 : hi < 1048576) (h2 : lo ≤ hi) (x : Int) (hx : (lo : Int) ≤ x % 400 + 1) (hx2 : x % 400 + 1 ≤ hi) (W : World) (hW : 0 < W.heap.size) :
    Calls Tryz.prog 3 #[.int .i64 x] W fun e w' => e = .returned (.bool true) ∧ Below W.heap.size W w' := by
  unfold liRun at h
  obtain ⟨tot, ht⟩ : ∃ tot : Nat, (tot : Int) = x % 400 + 1 := ⟨(x % 400 + 1).toNat, by omega⟩
  cases hr : runL liO 3 [.float .f32 (1048576 * (lo + 1048576 * hi))] liH with
  | none => rw [hr] at h; cases h
  | some p =>
    obtain ⟨v, H'⟩ := p
    rw [hr] at h
    have hv : v = .bool true := by
      change @Option.rec Bool (fun _ => Bool) false (fun b => b) (vBool v) = true at h
      cases v with
      | bool b => change b = true at h; rw [h]
      | _ => cases h
    subst hv
    have hwf : WF liH := fun i _ => by simp [liH, AHeap.get, Tr.get_nil]
    have hget : ∀ i, liH.get i = none := fun i => by simp [liH, AHeap.get, Tr.get_nil]
    have hrel : Rel (liRen tot) liH W := by
      refine ⟨fun i o s a => (by rw [hget] at a; cases a), fun i s a => ?_, fun i j oi oj si sj a => (by rw [hget] at a; cases a), fun i hi => ?_⟩
      · unfold liRen at a
        split at a
        · cases a; exact hW
        · cases a
      · have hi : 1 ≤ i := hi
        unfold liRen; rw [if_neg (by omega)]
    obtain ⟨_, hs⟩ := kRun_sound liO_sound mixedL okL_chk okL_code 400 _ _ liH (.bool true) H' hr hwf
    refine (hs _ W [.int .i64 x] hrel (fun g hg => (by cases hg)) ⟨rfl, fun j a b ha hb => ?_⟩).mono fun e w' hh => ?_
    · match j with
      | 0 =>
        cases ha; cases hb
        exact .pick (s := ⟨0, 0, 0, tot, false⟩) rfl (by show _ ≤ tot; omega) (by show tot ≤ _; omega) (by omega) ht
      | j + 1 => simp at ha
    · obtain ⟨v', β', rfl, g1, g2, _⟩ := hh
      cases g1
      exact ⟨rfl, g2.below fun i s hi => by
        unfold liRen at hi
        split at hi
        · cases hi; rfl
        · cases hi⟩
theorem li_113_400 : liRun 113 400 = true := by kernel_rfl
end Go.Proofs.YtmkmdppjfdphnaaGreatDoor
