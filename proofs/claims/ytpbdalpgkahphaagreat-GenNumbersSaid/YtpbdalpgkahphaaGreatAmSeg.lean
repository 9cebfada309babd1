/- A long run in pieces: the ready machine runs a piece of code from one printed state to the next; what is no longer wanted is left out of the state. -/
import Derived.Test.YtpbdalpgkahphaaGreatAmK5
import Derived.LoopN
set_option linter.unusedSimpArgs false
set_option linter.unusedVariables false
namespace Go.Proofs.YtpbdalpgkahphaaGreat
open Go.RowKit

def EnvK (β : Ren) (k : E8) (a : Act) (nt : Nat) : Prop := ∃ e, FR k e ∧ EnvRel β e a nt
def RunsK (P : Program) (nt : Nat) (c : Code) (k : E8) (H : AHeap) (Q : Way → E8 → AHeap → Prop) : Prop :=
  WF H → ∀ (β : Ren) (a : Act) (w : World), Rel β H w → EnvK β k a nt → ∀ K : Exit → Act → World → Prop,
    (∀ way k' H' β' a' w', Q way k' H' → WF H' → Goes β H w β' H' w' → EnvK β' k' a' nt → K (exitOf way) a' w') → c.wp P K a w
/-- what a piece comes to -/
def KW.says (r : KW) (Q : Way → E8 → AHeap → Prop) : Prop := match r with
  | .fail => False
  | .on k H => Q .on k H
  | .out i k H => Q (.out i) k H
  | .back k H => Q .back k H
section
variable {P : Program} {ok : Nat → Bool} {nt n : Nat} {k : E8} {H : AHeap} {Q : Way → E8 → AHeap → Prop} {call : CallFn}
/-- the program's checks, in one -/
structure Fit (P : Program) (ok : Nat → Bool) (call : CallFn) : Prop where
  code : ∀ f, ok f = true → codeOf P f = true
  call : CallSound P [] call
  mix : P.follows .mixedOrders = true
theorem runsK_run {c : Code} (F : Fit P ok call) (hk : chk [] nt c = true) (h : ((readyCode P ok c).c call n k H).says Q) : RunsK P nt c k H Q := by
  intro hwf β a w hr he K hK
  obtain ⟨e, hR, he⟩ := he
  have key : ∀ way k' H', ((readyCode P ok c).c call n k H).opt = some (way, k', H') → Q way k' H' → c.wp P K a w := fun way k' H' hv hq => by
    obtain ⟨e', h1, h2⟩ := readyCode_ok F.code c k e H (way, k', H') hR hv
    rw [← rCode_eq (nt := nt) (gs := []) c e H hk] at h1
    obtain ⟨h3, h4⟩ := aCode_sound F.call F.mix nt n c e H way e' H' h1 hwf
    exact h4 β a w hr (fun g hg => by cases hg) he K fun β' a' w' q1 _ q3 => hK _ _ _ _ _ _ hq (h3.wf hwf) q1 ⟨e', h2, q3⟩
  cases hv : (readyCode P ok c).c call n k H with
  | fail => rw [hv] at h; exact h.elim
  | on k' H' => rw [hv] at h; exact key .on k' H' (by rw [hv]; rfl) h
  | out i k' H' => rw [hv] at h; exact key (.out i) k' H' (by rw [hv]; rfl) h
  | back k' H' => rw [hv] at h; exact key .back k' H' (by rw [hv]; rfl) h
theorem RunsK.mono {c : Code} {Q' : Way → E8 → AHeap → Prop} (h : RunsK P nt c k H Q) (m : ∀ way k H, Q way k H → Q' way k H) : RunsK P nt c k H Q' :=
  fun hwf β a w hr he K hK => h hwf β a w hr he K fun way k' H' β' a' w' q0 q1 q2 q3 => hK _ _ _ _ _ _ (m _ _ _ q0) q1 q2 q3
/-- on: I; else Q -/
def onK (Q : Way → E8 → AHeap → Prop) (I : E8 → AHeap → Prop) : Way → E8 → AHeap → Prop
  | .on => I
  | w => Q w
theorem runsK_seq {x y : Code} {I : E8 → AHeap → Prop} (h1 : RunsK P nt x k H (onK Q I)) (h2 : ∀ e h, I e h → RunsK P nt y e h Q) : RunsK P nt (.seq x y) k H Q := by
  intro hwf β a w hr he K hK
  refine wp_seq (h1 hwf β a w hr he _ fun way k1 H1 β1 a1 w1 q0 q1 q3 q4 => ?_)
  cases way with
  | on => exact h2 _ _ q0 q1 β1 a1 w1 q3.rel q4 K fun way k' H' β' a' w' r0 r1 r3 r4 => hK _ _ _ _ _ _ r0 r1 (q3.trans r3) r4
  | out i => exact hK _ _ _ _ _ _ q0 q1 q3 q4
  | back => exact hK _ _ _ _ _ _ q0 q1 q3 q4
/-- a part of a memory -/
def Less (H1 H : AHeap) : Prop := (∀ i o, H1.get i = some o → H.get i = some o) ∧ H1.next = H.next
theorem Less.refl (H : AHeap) : Less H H := ⟨fun _ _ h => h, rfl⟩
theorem runsK_less {c : Code} {H1 : AHeap} (hs : Less H1 H) (h : RunsK P nt c k H1 Q) : RunsK P nt c k H Q := by
  obtain ⟨hs, hn⟩ := hs
  intro hwf β a w hr he K hK
  have hr1 : Rel β H1 w := ⟨fun i o s a b => hr.obj i o s (hs i o a) b, hr.blk, fun i j oi oj si sj a b c d => hr.apart i j oi oj si sj (hs i oi a) (hs j oj b) c d, fun i hi => hr.fresh i (by rw [← hn]; exact hi)⟩
  have hwf1 : WF H1 := fun i hi => by
    cases hg : H1.get i with
    | none => rfl
    | some o => have := hs i o hg; rw [hwf i (by rw [← hn]; exact hi)] at this; cases this
  have hO : ∀ b, OwnB β H1 b → OwnB β H b := fun b ⟨i, o, s, q1, q2⟩ => ⟨i, o, s, hs i o q1, q2⟩
  have hV : ∀ b, VisB β H1 b → VisB β H b := fun b ⟨i, o, s, q1, q2⟩ => ⟨i, o, s, hs i o q1, q2⟩
  exact h hwf1 β a w hr1 he K fun way k' H' β' a' w' r0 r1 r2 r3 => hK _ _ _ _ _ _ r0 r1 ⟨r2.le, r2.rel, r2.os, r2.tape, r2.output, r2.size, fun b hb hno => r2.keep b hb fun h => hno (hO b h), fun b hb hh => hO b (r2.own b hb hh), fun b hb hh => hV b (r2.vis b hb hh)⟩ r3
/-- a memory cut down to some numbers -/
noncomputable def kKeep (ids : List Nat) (H : AHeap) : AHeap := ⟨@List.rec Nat (fun _ => Tr AObj → Tr AObj) (fun t => t) (fun i _ ih t => ih (kput t i (kget H.objs i))) ids .nil, H.next, []⟩
theorem kKeep_less (ids : List Nat) (H : AHeap) : Less (kKeep ids H) H := by
  refine ⟨?_, rfl⟩
  have key : ∀ (ids : List Nat) (t : Tr AObj), (∀ i o, t.get i = some o → H.get i = some o) → ∀ i o, (@List.rec Nat (fun _ => Tr AObj → Tr AObj) (fun t => t) (fun i _ ih t => ih (kput t i (kget H.objs i))) ids t).get i = some o → H.get i = some o := by
    intro ids
    induction ids with
    | nil => intro t h; exact h
    | cons j ids ih =>
      intro t h
      refine ih _ fun k u hk => ?_
      rw [kput_eq, kget_eq, Tr.get_put] at hk
      by_cases e : k = j
      · rw [if_pos e] at hk; rw [e]; exact hk
      · rw [if_neg e] at hk; exact h k u hk
  exact key ids .nil fun i o h => by rw [Tr.get_nil] at h; cases h
/-- a piece run, what it leaves cut down -/
noncomputable def kCut (ids : List Nat) (r : KW) : KW := @KW.rec (fun _ => KW) .fail (fun k H => .on k (kKeep ids H)) (fun i k H => .out i k (kKeep ids H)) (fun k H => .back k (kKeep ids H)) r
theorem cut_on {ids : List Nat} {r : KW} {k1 : E8} {H1 : AHeap} (h : kCut ids r = .on k1 H1) : r.says fun way k' H' => way = .on ∧ k' = k1 ∧ Less H1 H' := by
  cases r with
  | on k' H' => cases h; exact ⟨rfl, rfl, kKeep_less _ _⟩
  | _ => cases h
theorem KW.says_mono {r : KW} {Q' : Way → E8 → AHeap → Prop} (h : r.says Q) (m : ∀ way k H, Q way k H → Q' way k H) : r.says Q' := by
  cases r <;> first | exact h | exact m _ _ _ h
theorem runsK_cut {x : Code} {ids : List Nat} {k1 : E8} {H1 : AHeap} (F : Fit P ok call) (hk : chk [] nt x = true) (h : kCut ids ((readyCode P ok x).c call n k H) = .on k1 H1) : RunsK P nt x k H (onK Q fun k' H' => k' = k1 ∧ Less H1 H') :=
  runsK_run F hk (KW.says_mono (cut_on h) fun way k' H' hh => by obtain ⟨rfl, h1, h2⟩ := hh; exact ⟨h1, h2⟩)
/-- a piece ahead of the rest, by printed states -/
theorem runsK_seg {x y : Code} {ids : List Nat} {k1 : E8} {H1 : AHeap} (F : Fit P ok call) (hk : chk [] nt x = true) (h : kCut ids ((readyCode P ok x).c call n k H) = .on k1 H1) (h2 : RunsK P nt y k1 H1 Q) : RunsK P nt (.seq x y) k H Q :=
  runsK_seq (runsK_cut F hk h) fun k' H' hh => by obtain ⟨rfl, hl⟩ := hh; exact runsK_less hl h2
/-- small pieces: the state is an expression -/
noncomputable def isOn (r : KW) : Bool := @KW.rec (fun _ => Bool) false (fun _ _ => true) (fun _ _ _ => false) (fun _ _ => false) r
noncomputable def envOf (r : KW) : E8 := @KW.rec (fun _ => E8) kU3 (fun k _ => k) (fun _ k _ => k) (fun k _ => k) r
noncomputable def memOf (r : KW) : AHeap := @KW.rec (fun _ => AHeap) emptyH (fun _ H => H) (fun _ _ H => H) (fun _ H => H) r
theorem on_says {r : KW} (h : isOn r = true) : r.says fun way k' H' => way = .on ∧ k' = envOf r ∧ H' = memOf r := by
  cases r with
  | on k' H' => exact ⟨rfl, rfl, rfl⟩
  | _ => cases h
theorem runsK_on {x y : Code} (F : Fit P ok call) (hk : chk [] nt x = true) (h : isOn ((readyCode P ok x).c call n k H) = true) (h2 : RunsK P nt y (envOf ((readyCode P ok x).c call n k H)) (memOf ((readyCode P ok x).c call n k H)) Q) : RunsK P nt (.seq x y) k H Q :=
  runsK_seq (I := fun k' H' => k' = envOf ((readyCode P ok x).c call n k H) ∧ H' = memOf ((readyCode P ok x).c call n k H)) (runsK_run F hk (KW.says_mono (on_says h) fun way k' H' hh => by obtain ⟨rfl, h1, h2⟩ := hh; exact ⟨h1, h2⟩)) fun k' H' hh => by obtain ⟨rfl, rfl⟩ := hh; exact h2
/-- out of a block -/
def outK (id : Nat) (Q : Way → E8 → AHeap → Prop) : Way → E8 → AHeap → Prop
  | .out i => fun k H => cond (Nat.beq i id) (Q .on k H) (Q (.out i) k H)
  | w => Q w
theorem runsK_block {id : Nat} {x : Code} (h : RunsK P nt x k H (outK id Q)) : RunsK P nt (.block id x) k H Q := by
  intro hwf β a w hr he K hK
  refine wp_block (h hwf β a w hr he _ fun way k1 H1 β1 a1 w1 q0 q1 q3 q4 => ?_)
  cases way with
  | on => exact hK _ _ _ _ _ _ q0 q1 q3 q4
  | back => exact hK _ _ _ _ _ _ q0 q1 q3 q4
  | out i =>
    change cond (Nat.beq i id) (Q .on k1 H1) (Q (.out i) k1 H1) at q0
    cases hb : Nat.beq i id with
    | true =>
      have := Nat.eq_of_beq_eq_true hb
      subst this
      rw [hb] at q0
      simp only [exitOf, Exit.inBlock, if_true]
      exact hK _ _ _ _ _ _ q0 q1 q3 q4
    | false =>
      have hne := Nat.ne_of_beq_eq_false hb
      rw [hb] at q0
      simp only [exitOf, Exit.inBlock, if_neg hne]
      exact hK (.out i) _ _ _ _ _ q0 q1 q3 q4
/-- a loop, by an invariant over a number that falls -/
theorem runsK_rounds {c : Code} (I : Nat → E8 → AHeap → Prop) (step : ∀ n k H, I n k H → RunsK P nt c k H (onK Q fun e h => ∃ m, m < n ∧ I m e h)) :
    ∀ (f n : Nat) (k : E8) (H : AHeap), I n k H → n < f → WF H → ∀ (β : Ren) (a : Act) (w : World), Rel β H w → EnvK β k a nt → ∀ K : Exit → Act → World → Prop,
      (∀ way k' H' β' a' w', Q way k' H' → WF H' → Goes β H w β' H' w' → EnvK β' k' a' nt → K (exitOf way) a' w') → Code.rounds P c K f a w
  | 0, n, k, H, hI, hf => by omega
  | f + 1, n, k, H, hI, hf => by
    intro hwf β a w hr he K hK
    rw [rounds_succ]
    refine step n k H hI hwf β a w hr he _ fun way k1 H1 β1 a1 w1 q0 q1 q3 q4 => ?_
    cases way with
    | on =>
      obtain ⟨m, hm, hi⟩ := q0
      exact runsK_rounds I step f m k1 H1 hi (by omega) q1 β1 a1 w1 q3.rel q4 K fun way k' H' β' a' w' r0 r1 r3 r4 => hK _ _ _ _ _ _ r0 r1 (q3.trans r3) r4
    | out i => exact hK (.out i) _ _ _ _ _ q0 q1 q3 q4
    | back => exact hK .back _ _ _ _ _ q0 q1 q3 q4
theorem runsK_loop {c : Code} (I : Nat → E8 → AHeap → Prop) (step : ∀ n k H, I n k H → RunsK P nt c k H (onK Q fun e h => ∃ m, m < n ∧ I m e h)) {n : Nat} (hI : I n k H) : RunsK P nt (.loop c) k H Q :=
  fun hwf β a w hr he K hK => wp_loop_rounds (n + 1) (runsK_rounds I step (n + 1) n k H hI (by omega) hwf β a w hr he K hK)
/-- a function that tells true -/
def tellsK (P : Program) (rs : List ResultVar) (way : Way) (k : E8) (H : AHeap) : Prop := (way = .on ∨ way = .back) ∧ kRes P k H rs = some [.bool true]
theorem calls_runsK {f : FuncId} {fn : Func} {c : Code} (hfn : P.funcs[f]? = some fn) (hbody : fn.body = some c) (h : RunsK P fn.ntmps c kU3 emptyH (tellsK P fn.results.toList)) (w : World) : Calls P f #[] w fun e w' => e = .returned (.bool true) ∧ Below w.heap.size w w' := by
  refine calls_of_wp hfn hbody ?_
  have ha := args_rel (nt := fn.ntmps) (args := []) (args' := []) (β := fun _ => none) ⟨rfl, fun j x y hx => by simp at hx⟩ (Nat.zero_le _)
  refine h emptyH_wf _ _ w (emptyH_rel w) ⟨.nil, FR.nil, ha⟩ _ fun way k1 H1 β' a' w' q0 _ q1 q3 => ?_
  obtain ⟨hway, hres⟩ := q0
  obtain ⟨e1, hR, q3⟩ := q3
  rw [kRes_eq P hR] at hres
  obtain ⟨vs', r1, r2⟩ := results_run q1.rel q3 (fun
    | .tmp t => pure (a'.tmps.getD t undef)
    | .cell a t => do loadVar t (← asAddr (a'.tmps.getD a undef))) (fun _ => rfl) (fun _ _ => rfl) fn.results.toList [.bool true] hres
  have hrun : (results fn a'.tmps).run P w' = .ok (if h : vs'.toArray.size = 1 then vs'.toArray[0] else .tuple vs'.toArray) w' := by
    unfold results
    rw [Array.mapM_eq_mapM_toList]
    simp only [Sem.run_bind, Sem.run_map]
    refine Eq.trans (congrArg (fun r => (Result.andThen (Result.andThen r fun a w => .ok (List.toArray a) w) fun a w' => (pure (if h : a.size = 1 then a[0] else Value.tuple a) : Sem Value).run P w')) r2) rfl
  have hv := oneOf_vr r1
  have hdone : bodyPost P fn (fun e w' => e = .returned (.bool true) ∧ Below w.heap.size w w') .normal a' w' := ⟨q3.defers, _, hrun, by
    rw [ja] at hv
    generalize (if h : vs'.toArray.size = 1 then vs'.toArray[0] else Value.tuple vs'.toArray) = u at hv
    cases hv
    rfl, q1.below (fun i s hi => (by cases hi))⟩
  rcases hway with h1 | h1
  · subst h1; exact hdone
  · subst h1; exact hdone
/-- a printed memory -/
noncomputable def kMem (l : List (Nat × AObj)) (next : Nat) : AHeap := ⟨@List.rec (Nat × AObj) (fun _ => Tr AObj → Tr AObj) (fun t => t) (fun p _ ih t => ih (kput t p.1 (some p.2))) l .nil, next, []⟩
end
end Go.Proofs.YtpbdalpgkahphaaGreat
