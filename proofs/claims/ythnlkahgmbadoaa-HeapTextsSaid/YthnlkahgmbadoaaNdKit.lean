/- Code whose answers hang on what is drawn: what holds of all of them. The machine's runs are such; a range over a map is put beside them. No program in sight. -/
import Derived.Test.YthnlkahgmbadoaaAmC
import Derived.LoopN
set_option linter.unusedSimpArgs false
set_option linter.unusedVariables false
namespace Go.Proofs.Ythnlkahgmbadoaa
open Go.RowKit

/-- whatever is drawn: the code ends so -/
def Holds (P : Program) (nt : Nat) (c : Code) (env : Tr Value) (H : AHeap) (Q : St → Prop) : Prop :=
  WF H → ∀ (β : Ren) (a : Act) (w : World), Rel β H w → EnvRel β env a nt → ∀ K : Exit → Act → World → Prop,
    (∀ way env' H' β' a' w', Q (way, env', H') → WF H' → LogLe H.next H H' → Goes β H w β' H' w' → EnvRel β' env' a' nt → K (exitOf way) a' w') → c.wp P K a w

section
variable {P : Program} {nt : Nat} {env : Tr Value} {H : AHeap} {Q : St → Prop}
theorem holds_got {call : CallFn} {fuel : Nat} {c : Code} (hc : CallSound P [] call) (hm : P.follows .mixedOrders = true) (hk : chk [] nt c = true) (h : Got (rCode P call fuel c env H) Q) : Holds P nt c env H Q := by
  intro hwf β a w hr he K hK
  obtain ⟨⟨way, env', H'⟩, h1, h2⟩ := h
  rw [← rCode_eq (nt := nt) (gs := []) c env H hk] at h1
  obtain ⟨h3, h4⟩ := aCode_sound hc hm nt fuel c env H way env' H' h1 hwf
  exact h4 β a w hr (fun g hg => by cases hg) he K fun β' a' w' q1 _ q3 => hK _ _ _ _ _ _ h2 (h3.wf hwf) h3 q1 q3
theorem Holds.mono {c : Code} {Q' : St → Prop} (h : Holds P nt c env H Q) (k : ∀ s, Q s → Q' s) : Holds P nt c env H Q' :=
  fun hwf β a w hr he K hK => h hwf β a w hr he K fun way env' H' β' a' w' q0 q1 q2 q3 q4 => hK way env' H' β' a' w' (k _ q0) q1 q2 q3 q4
theorem holds_seq {x y : Code} {I : Tr Value → AHeap → Prop} (h1 : Holds P nt x env H (onTo Q I)) (h2 : ∀ e h, I e h → Holds P nt y e h Q) : Holds P nt (.seq x y) env H Q := by
  intro hwf β a w hr he K hK
  refine wp_seq (h1 hwf β a w hr he _ fun way env1 H1 β1 a1 w1 q0 q1 q2 q3 q4 => ?_)
  cases way with
  | on => exact h2 _ _ q0 q1 β1 a1 w1 q3.rel q4 K fun way env' H' β' a' w' r0 r1 r2 r3 r4 => hK _ _ _ _ _ _ r0 r1 (q2.trans (r2.mono q2.next)) (q3.trans r3) r4
  | out i => exact hK _ _ _ _ _ _ q0 q1 q2 q3 q4
  | back => exact hK _ _ _ _ _ _ q0 q1 q2 q3 q4
theorem holds_block {id : Nat} {x : Code} (h : Holds P nt x env H (outOf id Q)) : Holds P nt (.block id x) env H Q := by
  intro hwf β a w hr he K hK
  refine wp_block (h hwf β a w hr he _ fun way env1 H1 β1 a1 w1 q0 q1 q2 q3 q4 => ?_)
  cases way with
  | on => exact hK _ _ _ _ _ _ q0 q1 q2 q3 q4
  | back => exact hK _ _ _ _ _ _ q0 q1 q2 q3 q4
  | out i =>
    rw [zx] at q0
    cases hb : Nat.beq i id with
    | true =>
      have := Nat.eq_of_beq_eq_true hb
      subst this
      rw [hb] at q0
      simp only [exitOf, Exit.inBlock, if_true]
      exact hK _ _ _ _ _ _ q0 q1 q2 q3 q4
    | false =>
      have hne := Nat.ne_of_beq_eq_false hb
      rw [hb] at q0
      simp only [exitOf, Exit.inBlock, if_neg hne]
      exact hK (.out i) _ _ _ _ _ q0 q1 q2 q3 q4
theorem holds_cond {c : Operand} {x y : Code} {t : Bool} (hc : aEval env c = .bool t) (h : Holds P nt (if t then x else y) env H Q) : Holds P nt (.cond c x y) env H Q := by
  intro hwf β a w hr he K hK
  have hev : a.eval c = .bool t := by
    cases c with
    | tmp k =>
      have hv := he.val k
      simp only [aEval] at hc
      rw [hc] at hv
      show a.tmps.getD k undef = _
      generalize a.tmps.getD k undef = u at hv
      cases hv; rfl
    | const v => exact hc
    | global g => cases hc
    | func f => cases hc
  refine wp_cond hev ?_
  exact h hwf β a w hr he K hK
theorem holds_skip (h : Q (.on, env, H)) : Holds P nt .skip env H Q := fun hwf β a w hr he K hK => wp_skip (hK _ _ _ _ _ _ h hwf (.refl _ _) (.refl hr) he)
theorem holds_exit {id : Nat} (h : Q (.out id, env, H)) : Holds P nt (.exit id) env H Q := fun hwf β a w hr he K hK => wp_exit (hK (.out id) _ _ _ _ _ h hwf (.refl _ _) (.refl hr) he)
theorem holds_ret (h : Q (.back, env, H)) : Holds P nt .ret env H Q := fun hwf β a w hr he K hK => wp_ret (hK .back _ _ _ _ _ h hwf (.refl _ _) (.refl hr) he)
end
/-- a loop, by an invariant over a number that falls -/
theorem holds_rounds {P : Program} {nt : Nat} {c : Code} {Q : St → Prop} (I : Nat → Tr Value → AHeap → Prop) (step : ∀ n env H, I n env H → Holds P nt c env H (onTo Q fun e h => ∃ m, m < n ∧ I m e h)) :
    ∀ (f n : Nat) (env : Tr Value) (H : AHeap), I n env H → n < f → WF H → ∀ (β : Ren) (a : Act) (w : World), Rel β H w → EnvRel β env a nt → ∀ K : Exit → Act → World → Prop,
      (∀ way env' H' β' a' w', Q (way, env', H') → WF H' → LogLe H.next H H' → Goes β H w β' H' w' → EnvRel β' env' a' nt → K (exitOf way) a' w') → Code.rounds P c K f a w
  | 0, n, env, H, hI, hf => by omega
  | f + 1, n, env, H, hI, hf => by
    intro hwf β a w hr he K hK
    rw [rounds_succ]
    refine step n env H hI hwf β a w hr he _ fun way env1 H1 β1 a1 w1 q0 q1 q2 q3 q4 => ?_
    cases way with
    | on =>
      obtain ⟨m, hm, hi⟩ := q0
      exact holds_rounds I step f m env1 H1 hi (by omega) q1 β1 a1 w1 q3.rel q4 K fun way env' H' β' a' w' r0 r1 r2 r3 r4 => hK _ _ _ _ _ _ r0 r1 (q2.trans (r2.mono q2.next)) (q3.trans r3) r4
    | out i => exact hK (.out i) _ _ _ _ _ q0 q1 q2 q3 q4
    | back => exact hK .back _ _ _ _ _ q0 q1 q2 q3 q4
theorem holds_loop {P : Program} {nt : Nat} {c : Code} {Q : St → Prop} (I : Nat → Tr Value → AHeap → Prop) (step : ∀ n env H, I n env H → Holds P nt c env H (onTo Q fun e h => ∃ m, m < n ∧ I m e h)) {n : Nat} {env : Tr Value} {H : AHeap} (hI : I n env H) : Holds P nt (.loop c) env H Q :=
  fun hwf β a w hr he K hK => wp_loop_rounds (n + 1) (holds_rounds I step (n + 1) n env H hI (by omega) hwf β a w hr he K hK)
end Go.Proofs.Ythnlkahgmbadoaa
