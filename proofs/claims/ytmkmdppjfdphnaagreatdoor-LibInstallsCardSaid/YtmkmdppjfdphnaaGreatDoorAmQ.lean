/- The machine without its static checks, which are made once a function: the same answers, cheaper to reckon. -/
import Derived.Test.YtmkmdppjfdphnaaGreatDoorAmC
set_option linter.unusedSimpArgs false
set_option linter.unusedVariables false
namespace Go.Proofs.YtmkmdppjfdphnaaGreatDoor
open Go.RowKit
def qStep (P : Program) (call : CallFn) (n : Nat) : CallFn := fun f args H => match P.funcs[f]? with
  | some fn => match fn.body with
    | some c => cond (Nat.ble args.length fn.ntmps) (fnOut P fn.results.toList H (rCode P call n c (qG args 0 .nil) { H with log := [] })) none
    | none => none
  | none => none
def qCall (P : Program) (O : Helps) (ok : Nat → Bool) : Nat → CallFn
  | 0 => fun _ _ _ => none
  | n + 1 => fun f args H => match O f with
    | some g => g args H
    | none => cond (ok f) (qStep P (qCall P O ok n) n f args H) none
theorem qStep_eq {P : Program} {gs : List Nat} {call : CallFn} {n f : Nat} (hk : chkFn P gs f = true) (args : List Value) (H : AHeap) : qStep P call n f args H = stepCall P gs call n f args H := by
  unfold qStep stepCall
  unfold chkFn at hk
  cases hf : P.funcs[f]? with
  | none => rfl
  | some fn =>
    simp only [hf] at hk
    simp only
    cases hb : fn.body with
    | none => rfl
    | some c =>
      simp only [hb] at hk
      simp only
      rw [rCode_eq c _ _ hk]
      rfl
theorem qCall_sound {P : Program} {gs : List Nat} {O : Helps} {ok : Nat → Bool} (ho : CallSound P gs (helpFn O)) (hm : P.follows .mixedOrders = true) (hok : ∀ f, ok f = true → chkFn P gs f = true) : ∀ n, CallSound P gs (qCall P O ok n)
  | 0 => fun f args H v H' h _ => by simp only [qCall] at h; cases h
  | n + 1 => fun f args H v H' h hwf => by
    simp only [qCall] at h
    split at h
    · rename_i g hg
      exact ho f args H v H' (by simp only [helpFn, hg]; exact h) hwf
    · cases hf : ok f with
      | false => rw [hf] at h; cases h
      | true =>
        rw [hf] at h
        simp only [cond] at h
        rw [qStep_eq (hok f hf)] at h
        exact fn_sound (qCall_sound ho hm hok n) hm n f args H v H' h hwf
/-- the functions of a list, which are all checked -/
def okIn (l : List Nat) (f : Nat) : Bool := l.any fun g => Nat.beq f g
theorem okIn_chk {P : Program} {gs : List Nat} {l : List Nat} (h : l.all (chkFn P gs) = true) (f : Nat) (hf : okIn l f = true) : chkFn P gs f = true := by
  simp only [okIn, List.any_eq_true] at hf
  obtain ⟨g, hg, he⟩ := hf
  rw [Nat.eq_of_beq_eq_true he]
  exact List.all_eq_true.1 h g hg
end Go.Proofs.YtmkmdppjfdphnaaGreatDoor
