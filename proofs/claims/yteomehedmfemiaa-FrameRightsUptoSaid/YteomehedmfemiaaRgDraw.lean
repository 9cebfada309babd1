/- A call in a region that draws which may make new blocks or not: told as one that does. No program in sight. -/
import Derived.Test.YteomehedmfemiaaAmGo
set_option linter.unusedSimpArgs false
set_option linter.unusedVariables false
namespace Go.Proofs.Yteomehedmfemiaa
open Go.RowKit
/-- less clashes -/
def LeC (cs cs' : List (Nat × Class)) : Prop := ∀ (b : Nat) (c : Class), (cs'.any fun p => !b.testBit p.1 && clash p.2 c) = false → (cs.any fun p => !b.testBit p.1 && clash p.2 c) = false
theorem LeC.cons {cs cs' : List (Nat × Class)} (h : LeC cs cs') (p : Nat × Class) : LeC (p :: cs) (p :: cs') := fun b c hh => by
  rw [List.any_cons, Bool.or_eq_false_iff] at hh ⊢
  exact ⟨hh.1, h b c hh.2⟩
theorem clash_less {q : Bool} (c : Class) (h : clash (.other false []) c = false) : clash (.other q []) c = false := by
  cases c with
  | other r w => simp [clash] at h
  | pure => rfl
  | load i => rfl
  | fresh i => rfl
theorem clash_less' {q : Bool} (c : Class) (h : clash c (.other false []) = false) : clash c (.other q []) = false := by
  cases c with
  | other r w => cases r <;> simp [clash] at h
  | pure => rfl
  | load i => rfl
  | fresh i => rfl
theorem LeC.less (cs : List (Nat × Class)) (k : Nat) (q : Bool) : LeC ((k, .other q []) :: cs) ((k, .other false []) :: cs) := fun b c hh => by
  rw [List.any_cons, Bool.or_eq_false_iff] at hh ⊢
  refine ⟨?_, hh.2⟩
  cases hb : b.testBit k with
  | true => rfl
  | false =>
    have h1 := hh.1
    simp only [hb, Bool.not_false, Bool.true_and] at h1 ⊢
    exact clash_less c h1
theorem draw_less {P : Program} {call : CallFn} {all : List Oper} {bf : List Nat} {base : Nat} : ∀ (os : List Oper) (k : Nat) (env : Tr Value) (H : AHeap) (cs cs' : List (Nat × Class)) (r : Tr Value × AHeap), LeC cs cs' → rDraw P call all bf base os k env H cs' = some r → rDraw P call all bf base os k env H cs = some r
  | [], _, _, _, _, _, _, _, h => h
  | o :: os, k, env, H, cs, cs', r, hl, h => by
    simp only [rDraw] at h ⊢
    cases hw : wantedA o all env with
    | false => rw [hw] at h; exact draw_less os _ _ _ _ _ _ hl h
    | true =>
      rw [hw] at h
      simp only [cond] at h ⊢
      cases hs : aStep P call (aEval env) o (base + k) { H with log := [] } with
      | none => rw [hs] at h; cases h
      | some a =>
        rw [hs] at h
        simp only at h ⊢
        cases hc : cs'.any fun p => !((bf[k]?).getD 0).testBit p.1 && clash p.2 (zY (aEval env) (base + k) H a.2 o.op) with
        | true => rw [hc] at h; cases h
        | false =>
          rw [hc] at h
          rw [hl _ _ hc]
          exact draw_less os _ _ _ _ _ _ (hl.cons _) h
section
variable {P : Program} {call : CallFn} {all os : List Oper} {bf : List Nat} {base k : Nat} {env : Tr Value} {ob ob' : Tr AObj} {nx nx' : Nat} {lg l : List Nat} {Q : Tr Value × AHeap → Prop} {d : Option Tmp} {op : Op} {ty : TypeId} {ps : String} {af : Array Edge} {S : List (Nat × Nat)} {cs : List (Nat × Class)}
theorem d_new (R : Value × AHeap → Prop) (h : Got (aStep P call (aEval env) ⟨d, op, ty, ps, af, none⟩ (base + k) ⟨ob, nx, []⟩) R) (hk : ∀ r, R r → ∃ q, zY (aEval env) (base + k) ⟨ob, nx, lg⟩ r.2 op = .other q []) (hb : calmK bf k S 3 = true)
    (h2 : ∀ v o' nx' l, R (v, ⟨o', nx', l⟩) → GotD P call all bf base os (k + 1) (putE env d v) ⟨o', nx', relogL lg l⟩ ((k, 3) :: S) ((k, .other false []) :: cs) Q) : GotD P call all bf base (⟨d, op, ty, ps, af, none⟩ :: os) k env ⟨ob, nx, lg⟩ S cs Q := by
  intro hS
  rw [zH]
  refine h.mono fun a e => ?_
  obtain ⟨v, o', nx', l⟩ := a
  obtain ⟨q, hq⟩ := hk _ e
  have hcalm : calm bf k cs (.other false []) = true := calm_k hS rfl hb
  refine ⟨?_, ?_⟩
  · rw [hq]
    unfold calm at hcalm ⊢
    rw [Bool.not_eq_true', List.any_eq_false] at hcalm ⊢
    intro p hp hh
    refine hcalm p hp ?_
    rw [Bool.and_eq_true] at hh ⊢
    refine ⟨hh.1, ?_⟩
    cases hcl : clash p.2 (.other false []) with
    | true => rfl
    | false => rw [clash_less' _ hcl] at hh; exact hh.2
  · rw [hq]
    obtain ⟨r, h3, h4⟩ := h2 v o' nx' l e (by show (k, _) :: kindsOf cs = _; rw [hS]; rfl)
    exact ⟨r, draw_less _ _ _ _ _ _ _ (LeC.less cs k q) h3, h4⟩
end
end Go.Proofs.Yteomehedmfemiaa
