/- A function whose code holds so, whatever is drawn. No program in sight. -/
import Derived.Test.YthnlkahgmbadoaaNdLoop
set_option linter.unusedSimpArgs false
set_option linter.unusedVariables false
namespace Go.Proofs.Ythnlkahgmbadoaa
open Go.RowKit

/-- the code's end: the results are true -/
def tellsTrue (P : Program) (rs : List ResultVar) (s : St) : Prop := (s.1 = .on ∨ s.1 = .back) ∧ aResults P s.2.1 s.2.2 rs = some [.bool true]
theorem calls_holds {P : Program} {f : FuncId} {fn : Func} {c : Code} (hfn : P.funcs[f]? = some fn) (hbody : fn.body = some c) {args args' : List Value} {H : AHeap} (hb : Nat.ble args.length fn.ntmps = true) (h : Holds P fn.ntmps c (qG args 0 .nil) (unlog H) (tellsTrue P fn.results.toList))
    (hwf : WF H) {β : Ren} {w : World} (hr : Rel β H w) (hargs : ListVR β args args') : Calls P f args'.toArray w fun e w' => e = .returned (.bool true) ∧ ∃ β' H', Goes β H w β' H' w' := by
  rw [Nat.ble_eq] at hb
  refine calls_of_wp hfn hbody ?_
  refine h (show WF (unlog H) from hwf) β _ w (show Rel β (unlog H) w from ⟨hr.obj, hr.blk, hr.apart, hr.fresh⟩) (args_rel hargs hb) _ fun way env1 H1 β' a' w' q0 _ _ q1 q3 => ?_
  obtain ⟨hway, hres⟩ := q0
  obtain ⟨vs', r1, r2⟩ := results_run q1.rel q3 (fun
    | .tmp t => pure (a'.tmps.getD t undef)
    | .cell a t => do loadVar t (← asAddr (a'.tmps.getD a undef))) (fun _ => rfl) (fun _ _ => rfl) fn.results.toList [.bool true] hres
  have hrun : (results fn a'.tmps).run P w' = .ok (if h : vs'.toArray.size = 1 then vs'.toArray[0] else .tuple vs'.toArray) w' := by
    unfold results
    rw [Array.mapM_eq_mapM_toList]
    simp only [Sem.run_bind, Sem.run_map]
    refine Eq.trans (congrArg (fun r => (Result.andThen (Result.andThen r fun a w => .ok (List.toArray a) w) fun a w' => (pure (if h : a.size = 1 then a[0] else Value.tuple a) : Sem Value).run P w')) r2) rfl
  have hv := oneOf_vr r1
  have hdone : bodyPost P fn (fun e w' => e = .returned (.bool true) ∧ ∃ β' H', Goes β H w β' H' w') .normal a' w' := ⟨q3.defers, _, hrun, by
    rw [ja] at hv
    generalize (if h : vs'.toArray.size = 1 then vs'.toArray[0] else Value.tuple vs'.toArray) = u at hv
    cases hv
    rfl, β', H1, ⟨q1.le, q1.rel, q1.os, q1.tape, q1.output, q1.size, q1.keep, q1.own, q1.vis⟩⟩
  rcases hway with h1 | h1
  · have h1 : way = .on := h1
    subst h1; exact hdone
  · have h1 : way = .back := h1
    subst h1; exact hdone
end Go.Proofs.Ythnlkahgmbadoaa
