/- Calls with helps: for some functions it is given what they answer; the machine is sound if these answers are. -/
import Derived.Test.YtmflapajjghpmaaAmSound4
namespace Go.Proofs.Ytmflapajjghpmaa
open Go.RowKit

/-- a function's code, its calls answered so -/
def stepCall (P : Program) (gs : List Nat) (call : CallFn) (n : Nat) : CallFn := fun f args H => match P.funcs[f]? with
    | some fn => match fn.body with
      | some c => cond (Nat.ble args.length fn.ntmps) (match aCode P gs call fn.ntmps n c (argsEnv args 0 .nil) { H with log := [] } with
        | some (.on, env, H') | some (.back, env, H') => (aResults P env H' fn.results.toList).map fun vs => leave H (oneOf vs) H'
        | _ => none) none
      | none => none
    | none => none
theorem fn_sound {P : Program} {gs : List Nat} {call : CallFn} (hc : CallSound P gs call) (hm : P.follows .mixedOrders = true) (n : Nat) : CallSound P gs (stepCall P gs call n) := fun f args H v H' h hwf => by
    simp only [stepCall] at h
    split at h
    · rename_i fn hfn
      split at h
      · rename_i c hbody
        cases hb : Nat.ble args.length fn.ntmps with
        | false => rw [hb] at h; cases h
        | true =>
          rw [hb] at h
          simp only [cond] at h
          rw [Nat.ble_eq] at hb
          obtain ⟨way, env1, H1, vs, hcode, hway, hres, hleave⟩ : ∃ way env1 H1 vs, aCode P gs (call) fn.ntmps n c (argsEnv args 0 .nil) (unlog H) = some (way, env1, H1) ∧ (way = .on ∨ way = .back) ∧ aResults P env1 H1 fn.results.toList = some vs ∧ leave H (oneOf vs) H1 = (v, H') := by
            split at h
            · rename_i env1 H1 hcode
              obtain ⟨vs, h1, h2⟩ := Option.map_eq_some_iff.1 h
              exact ⟨_, env1, H1, vs, hcode, .inl rfl, h1, h2⟩
            · rename_i env1 H1 hcode
              obtain ⟨vs, h1, h2⟩ := Option.map_eq_some_iff.1 h
              exact ⟨_, env1, H1, vs, hcode, .inr rfl, h1, h2⟩
            · cases h
          obtain ⟨hlogs, hsnd⟩ := aCode_sound hc hm fn.ntmps n c _ _ way env1 H1 hcode (show WF (unlog H) from hwf)
          have hlogs : LogLe H.next (unlog H) H1 := hlogs
          have hpost : ∀ (β : Ren) (w : World) (args' : List Value), Rel β H w → GlobOk gs β → ListVR β args args' → ∀ R : Ending → World → Prop, (∀ β' v' w', VR β' (oneOf vs) v' → Goes β H w β' H1 w' → Ren.agree H.next β β' → R (.returned v') w') → Calls P f args'.toArray w R := by
            intro β w args' hr hg hargs R hR
            refine calls_of_wp hfn hbody ?_
            refine hsnd β _ w (show Rel β (unlog H) w from ⟨hr.obj, hr.blk, hr.apart, hr.fresh⟩) hg (args_rel hargs hb) _ fun β' a' w' q1 q2 q3 => ?_
            obtain ⟨vs', r1, r2⟩ := results_run q1.rel q3 (fun
              | .tmp t => pure (a'.tmps.getD t undef)
              | .cell a t => do loadVar t (← asAddr (a'.tmps.getD a undef))) (fun _ => rfl) (fun _ _ => rfl) fn.results.toList vs hres
            have hrun : (results fn a'.tmps).run P w' = .ok (if h : vs'.toArray.size = 1 then vs'.toArray[0] else .tuple vs'.toArray) w' := by
              unfold results
              rw [Array.mapM_eq_mapM_toList]
              simp only [Sem.run_bind, Sem.run_map]
              refine Eq.trans (congrArg (fun r => (Result.andThen (Result.andThen r fun a w => .ok (List.toArray a) w) fun a w' => (pure (if h : a.size = 1 then a[0] else Value.tuple a) : Sem Value).run P w')) r2) rfl
            have hdone : bodyPost P fn R .normal a' w' := ⟨q3.defers, _, hrun, hR β' _ w' (oneOf_vr r1) ⟨q1.le, q1.rel, q1.os, q1.tape, q1.output, q1.size, q1.keep, q1.own, q1.vis⟩ q2⟩
            rcases hway with rfl | rfl
            · exact hdone
            · exact hdone
          unfold leave at hleave
          cases hq : (H1.log.all (fun i => Nat.ble H.next i) && lowV H.next (oneOf vs)) with
          | true =>
            rw [hq] at hleave
            simp only [cond, Prod.mk.injEq] at hleave
            obtain ⟨rfl, rfl⟩ := hleave
            rw [Bool.and_eq_true] at hq
            refine ⟨.refl _ _, fun β w args' hr hg hargs => hpost β w args' hr hg hargs _ fun β' v' w' q1 q2 q3 => ?_⟩
            refine ⟨v', β, rfl, lowV_vr q3 hq.2 q1, ?_, fun _ _ => rfl⟩
            refine q2.forget hr fun i o hi hs => ?_
            obtain ⟨s, hs⟩ := hs
            have hlt : i < H.next := by
              rcases Nat.lt_or_ge i H.next with h1 | h1
              · exact h1
              · rw [hr.fresh i h1] at hs; cases hs
            rw [hlogs.same i hlt fun hm2 => ?_]
            · exact hi
            · have := List.all_eq_true.1 hq.1 i hm2
              rw [Nat.ble_eq] at this; omega
          | false =>
            rw [hq] at hleave
            simp only [cond, Prod.mk.injEq] at hleave
            obtain ⟨rfl, rfl⟩ := hleave
            have hmem : ∀ i, i ∈ (H1.log.filter fun i => Nat.blt i H.next).foldl (fun l i => noteId i l) H.log ↔ (i ∈ H1.log ∧ i < H.next) ∨ i ∈ H.log := fun i => by
              rw [mem_notes, List.mem_filter, Nat.blt_eq]
            refine ⟨⟨fun i hi hn => ?_, fun i hi => (hmem i).2 (.inr hi), hlogs.next, hlogs.live, hlogs.wf, fun i hi => ?_⟩, fun β w args' hr hg hargs => hpost β w args' hr hg hargs _ fun β' v' w' q1 q2 q3 => ?_⟩
            · exact hlogs.same i hi fun h1 => hn ((hmem i).2 (.inl ⟨h1, hi⟩))
            · rcases (hmem i).1 hi with h1 | h1
              · rcases hlogs.logged i h1.1 with h2 | h2 | h2
                · simp [unlog] at h2
                · exact .inr (.inl h2)
                · exact .inr (.inr h2)
              · exact .inl h1
            · exact ⟨v', β', rfl, q1, ⟨q2.le, ⟨q2.rel.obj, q2.rel.blk, q2.rel.apart, q2.rel.fresh⟩, q2.os, q2.tape, q2.output, q2.size, q2.keep, q2.own, q2.vis⟩, q3⟩
      · cases h
    · cases h


/-- what is given: for a function its answers -/
abbrev Helps := FuncId → Option (List Value → AHeap → Option (Value × AHeap))
def helpFn (O : Helps) : CallFn := fun f args H => match O f with
  | some g => g args H
  | none => none
def oCall (P : Program) (gs : List Nat) (O : Helps) : Nat → CallFn
  | 0 => fun _ _ _ => none
  | n + 1 => fun f args H => match O f with
    | some g => g args H
    | none => stepCall P gs (oCall P gs O n) n f args H
theorem oCall_sound {P : Program} {gs : List Nat} {O : Helps} (ho : CallSound P gs (helpFn O)) (hm : P.follows .mixedOrders = true) : ∀ n, CallSound P gs (oCall P gs O n)
  | 0 => fun f args H v H' h _ => by simp only [oCall] at h; cases h
  | n + 1 => fun f args H v H' h hwf => by
    simp only [oCall] at h
    split at h
    · rename_i g hg
      exact ho f args H v H' (by simp only [helpFn, hg]; exact h) hwf
    · exact fn_sound (oCall_sound ho hm n) hm n f args H v H' h hwf
def noHelp : Helps := fun _ => none
theorem noHelp_sound (P : Program) (gs : List Nat) : CallSound P gs (helpFn noHelp) := fun f args H v H' h _ => by simp only [helpFn, noHelp] at h; cases h

/-- one function that answers flat values, and leaves all as it was, whatever is there -/
def flatHelp (f : FuncId) (v : Value) : Helps := fun g => cond (Nat.beq g f) (some fun args H => cond args.isEmpty (some (v, H)) none) none
theorem flatHelp_sound {P : Program} {gs : List Nat} {f : FuncId} {v : Value} (hf : flat v = true) (h : ∀ w, Calls P f #[] w fun e w' => e = .returned v ∧ Below w.heap.size w w') : CallSound P gs (helpFn (flatHelp f v)) := fun g args H u H' hh hwf => by
  simp only [helpFn, flatHelp] at hh
  cases hg : Nat.beq g f with
  | false => rw [hg] at hh; cases hh
  | true =>
    have hg := Nat.eq_of_beq_eq_true hg
    subst hg
    simp only [Nat.beq_refl, cond] at hh
    cases args with
    | cons => cases hh
    | nil =>
      simp only [List.isEmpty_nil, Option.some.injEq, Prod.mk.injEq] at hh
      obtain ⟨rfl, rfl⟩ := hh
      refine ⟨?_, fun β w args' hr hglob hargs => ?_⟩
      · exact LogLe.refl _ _
      · have he : args' = [] := List.eq_nil_of_length_eq_zero hargs.1.symm
        subst he
        refine (h w).mono fun e w' ⟨h1, h2⟩ => ⟨v, β, h1, (flat_vr hf β).1, ?_, fun _ _ => rfl⟩
        exact ⟨β.le_refl, ⟨fun i o s a b => (hr.obj i o s a b).mono β.le_refl (h2.block _ (hr.blk i s b)), fun i s b => Nat.lt_of_lt_of_le (hr.blk i s b) h2.size, hr.apart, hr.fresh⟩, h2.os, h2.tape, h2.output, h2.size, fun b hb _ => h2.block b hb, fun _ _ h => h, fun _ _ h => h⟩
end Go.Proofs.Ytmflapajjghpmaa
