/- Pieces of code named; a chain of runs. -/
import Derived.Test.YtpbdalpgkahphaaGreatAmSeg
set_option linter.unusedSimpArgs false
set_option linter.unusedVariables false
namespace Go.Proofs.YtpbdalpgkahphaaGreat
open Go.RowKit
def ySL : Code → Code
  | .seq a _ => a
  | c => c
def ySR : Code → Code
  | .seq _ b => b
  | c => c
def yBl : Code → Code
  | .block _ c => c
  | c => c
def yLp : Code → Code
  | .loop c => c
  | c => c
def yBody (f : Func) : Code := f.body.getD .skip
/-- one run, then another one -/
noncomputable def kThn (r : KW) (f : E8 → AHeap → KW) : KW := @KW.rec (fun _ => KW) .fail f (fun _ _ _ => .fail) (fun _ _ => .fail) r
theorem thn_on {r : KW} {f : E8 → AHeap → KW} {ids : List Nat} {k : E8} {H : AHeap} (h : kCut ids (kThn r f) = .on k H) : ∃ k1 H1, r = .on k1 H1 ∧ kCut ids (f k1 H1) = .on k H := by
  cases r with
  | on k1 H1 => exact ⟨k1, H1, rfl, h⟩
  | _ => cases h
section
variable {P : Program} {ok : Nat → Bool} {nt n : Nat} {k : E8} {H : AHeap} {Q : Way → E8 → AHeap → Prop} {call : CallFn}
theorem runsK_eq {x y : Code} {k1 : E8} {H1 : AHeap} (F : Fit P ok call) (hk : chk [] nt x = true) (h : (readyCode P ok x).c call n k H = .on k1 H1) (h2 : RunsK P nt y k1 H1 Q) : RunsK P nt (.seq x y) k H Q :=
  runsK_seq (I := fun k' H' => k' = k1 ∧ H' = H1) (runsK_run F hk (by rw [h]; exact ⟨rfl, rfl⟩)) fun k' H' hh => by obtain ⟨rfl, rfl⟩ := hh; exact h2
theorem runsK_last {x : Code} {ids : List Nat} {k1 : E8} {H1 : AHeap} (F : Fit P ok call) (hk : chk [] nt x = true) (h : kCut ids ((readyCode P ok x).c call n k H) = .on k1 H1) (h2 : ∀ H', Less H1 H' → Q .on k1 H') : RunsK P nt x k H Q :=
  runsK_run F hk (KW.says_mono (cut_on h) fun way k' H' hh => by obtain ⟨rfl, rfl, hl⟩ := hh; exact h2 _ hl)
noncomputable def isOut (id : Nat) (r : KW) : Bool := @KW.rec (fun _ => Bool) false (fun _ _ => false) (fun i _ _ => Nat.beq i id) (fun _ _ => false) r
theorem out_says {id : Nat} {r : KW} (h : isOut id r = true) : r.says fun way k' H' => way = .out id ∧ k' = envOf r ∧ H' = memOf r := by
  cases r with
  | out i k' H' => have := Nat.eq_of_beq_eq_true h; subst this; exact ⟨rfl, rfl, rfl⟩
  | _ => cases h
end
end Go.Proofs.YtpbdalpgkahphaaGreat
