/- The abstract machine: a region whose order is drawn, where nothing is written: one operation at a time. No program in sight. -/
import Derived.Test.YtedfjfpnpncgkaaDoorAmC
namespace Go.Proofs.YtedfjfpnpncgkaaDoor
open Go.RowKit
set_option linter.unusedSimpArgs false
set_option linter.unusedVariables false

/-! ### the machine -/
section
variable {P : Program} {call : CallFn} {all os : List Oper} {bf : List Nat} {base k : Nat} {env : Tr Value} {ob : Tr AObj} {nx : Nat} {lg : List Nat} {Q : Tr Value × AHeap → Prop} {d : Option Tmp} {op : Op} {ty : TypeId} {ps : String} {af : Array Edge} {cs : List (Nat × Class)}
theorem yd_guard {j : Nat} {w : Bool} : Got (rDraw P call all bf base (⟨d, op, ty, ps, af, some (j, w)⟩ :: os) k env ⟨ob, nx, lg⟩ cs) Q = cond (wantedA ⟨d, op, ty, ps, af, some (j, w)⟩ all env)
    (Got (aStep P call (aEval env) ⟨d, op, ty, ps, af, none⟩ (base + k) ⟨ob, nx, []⟩) fun r =>
      calm bf k cs (zY (aEval env) (base + k) ⟨ob, nx, lg⟩ r.2 op) = true ∧ Got (rDraw P call all bf base os (k + 1) (putE env d r.1) ⟨r.2.objs, r.2.next, relogL lg r.2.log⟩ ((k, zY (aEval env) (base + k) ⟨ob, nx, lg⟩ r.2 op) :: cs)) Q)
    (Got (rDraw P call all bf base os (k + 1) (putE env d undef) ⟨ob, nx, lg⟩ cs) Q) := by
  simp only [rDraw]
  cases wantedA ⟨d, op, ty, ps, af, some (j, w)⟩ all env with
  | false => rfl
  | true =>
    simp only [cond]
    have e : aStep P call (aEval env) ⟨d, op, ty, ps, af, some (j, w)⟩ (base + k) ⟨ob, nx, []⟩ = aStep P call (aEval env) ⟨d, op, ty, ps, af, none⟩ (base + k) ⟨ob, nx, []⟩ := rfl
    rw [e]
    cases h : aStep P call (aEval env) ⟨d, op, ty, ps, af, none⟩ (base + k) ⟨ob, nx, []⟩ with
    | none => simp only [qM]
    | some s =>
      obtain ⟨v, H1⟩ := s
      simp only [qL, calm]
      cases cs.any fun p => !((bf[k]?).getD 0).testBit p.1 && clash p.2 (zY (aEval env) (base + k) ⟨ob, nx, lg⟩ H1 op) with
      | true => simp [qM]
      | false => simp [relogL]
end
/-! ### a region whose order is drawn, where nothing is written: one operation at a time -/
def quietC : Class → Bool
  | .pure => true
  | .load _ => true
  | .fresh _ => true
  | .other q w => q && w.isEmpty
theorem quietC_pure : quietC .pure = true := rfl
theorem quietC_load (i : Nat) : quietC (.load i) = true := rfl
theorem quietC_fresh (i : Nat) : quietC (.fresh i) = true := rfl
theorem quietC_other (q : Bool) (w : List Nat) : quietC (.other q w) = (q && w.isEmpty) := rfl
theorem clash_quiet {a b : Class} (ha : quietC a = true) (hb : quietC b = true) : clash a b = false := by
  cases a with
  | pure => exact zN b
  | load i => cases b with
    | pure => rfl
    | load j => rfl
    | fresh j => rfl
    | other q w =>
      rw [quietC_other, Bool.and_eq_true, List.isEmpty_iff] at hb
      rw [zS, hb.2]; rfl
  | fresh i => cases b with
    | pure => rfl
    | load j => rfl
    | fresh j => rfl
    | other q w =>
      rw [quietC_other, Bool.and_eq_true, List.isEmpty_iff] at hb
      rw [zU, hb.2]; rfl
  | other q w =>
    rw [quietC_other, Bool.and_eq_true, List.isEmpty_iff] at ha
    cases b with
    | pure => rfl
    | load j => rw [zT, ha.2]; rfl
    | fresh j => rw [zV, ha.2]; rfl
    | other q' w' =>
      rw [quietC_other, Bool.and_eq_true] at hb
      rw [zW, ha.1, hb.1]; rfl
theorem calm_quiet {bf : List Nat} {k : Nat} {cs : List (Nat × Class)} {c : Class} (hcs : cs.all (fun p => quietC p.2) = true) (hc : quietC c = true) : calm bf k cs c = true := by
  unfold calm
  rw [Bool.not_eq_true', List.any_eq_false]
  intro p hp
  rw [clash_quiet (List.all_eq_true.1 hcs p hp) hc]; simp
section
variable {P : Program} {call : CallFn} {all os : List Oper} {bf : List Nat} {base k : Nat} {env : Tr Value} {ob ob' : Tr AObj} {nx nx' : Nat} {lg l : List Nat} {Q : Tr Value × AHeap → Prop} {d : Option Tmp} {op : Op} {ty : TypeId} {ps : String} {af : Array Edge} {cs : List (Nat × Class)} {v : Value} {j : Nat} {w b : Bool}
theorem sq_op (hcs : cs.all (fun p => quietC p.2) = true) (h : Got (aStep P call (aEval env) ⟨d, op, ty, ps, af, none⟩ (base + k) ⟨ob, nx, []⟩) fun r => r = (v, ⟨ob', nx', l⟩)) (hq : quietC (zY (aEval env) (base + k) ⟨ob, nx, lg⟩ ⟨ob', nx', l⟩ op) = true)
    (h2 : ∀ cs' : List (Nat × Class), cs'.all (fun p => quietC p.2) = true → Got (rDraw P call all bf base os (k + 1) (putE env d v) ⟨ob', nx', relogL lg l⟩ cs') Q) : Got (rDraw P call all bf base (⟨d, op, ty, ps, af, none⟩ :: os) k env ⟨ob, nx, lg⟩ cs) Q := by
  rw [zH]
  exact h.mono fun a e => by
    subst e
    exact ⟨calm_quiet hcs hq, h2 _ (by rw [List.all_cons, hcs, hq]; rfl)⟩
theorem sq_guard (hw : wantedA ⟨d, op, ty, ps, af, some (j, w)⟩ all env = b) (h : cond b (Got (aStep P call (aEval env) ⟨d, op, ty, ps, af, none⟩ (base + k) ⟨ob, nx, []⟩) fun r =>
      calm bf k cs (zY (aEval env) (base + k) ⟨ob, nx, lg⟩ r.2 op) = true ∧ Got (rDraw P call all bf base os (k + 1) (putE env d r.1) ⟨r.2.objs, r.2.next, relogL lg r.2.log⟩ ((k, zY (aEval env) (base + k) ⟨ob, nx, lg⟩ r.2 op) :: cs)) Q)
    (Got (rDraw P call all bf base os (k + 1) (putE env d undef) ⟨ob, nx, lg⟩ cs) Q)) : Got (rDraw P call all bf base (⟨d, op, ty, ps, af, some (j, w)⟩ :: os) k env ⟨ob, nx, lg⟩ cs) Q := by
  rw [yd_guard, hw]; exact h
theorem sq_then {Y : Prop} (hcs : cs.all (fun p => quietC p.2) = true) (h : Got (aStep P call (aEval env) ⟨d, op, ty, ps, af, none⟩ (base + k) ⟨ob, nx, []⟩) fun r => r = (v, ⟨ob', nx', l⟩)) (hq : quietC (zY (aEval env) (base + k) ⟨ob, nx, lg⟩ ⟨ob', nx', l⟩ op) = true)
    (h2 : ∀ cs' : List (Nat × Class), cs'.all (fun p => quietC p.2) = true → Got (rDraw P call all bf base os (k + 1) (putE env d v) ⟨ob', nx', relogL lg l⟩ cs') Q) :
    cond true (Got (aStep P call (aEval env) ⟨d, op, ty, ps, af, none⟩ (base + k) ⟨ob, nx, []⟩) fun r =>
      calm bf k cs (zY (aEval env) (base + k) ⟨ob, nx, lg⟩ r.2 op) = true ∧ Got (rDraw P call all bf base os (k + 1) (putE env d r.1) ⟨r.2.objs, r.2.next, relogL lg r.2.log⟩ ((k, zY (aEval env) (base + k) ⟨ob, nx, lg⟩ r.2 op) :: cs)) Q) Y := h.mono fun a e => by
    subst e
    exact ⟨calm_quiet hcs hq, h2 _ (by rw [List.all_cons, hcs, hq]; rfl)⟩
theorem sq_nil {H : AHeap} (h : Q (env, H)) : Got (rDraw P call all bf base [] k env H cs) Q := by rw [zG]; exact h
theorem sq_region {fuel id m : Nat} {ops : Array Oper} {R : St → Prop} (hm : ops.toList.length = m) (h : ∀ cs : List (Nat × Class), cs.all (fun p => quietC p.2) = true → Got (rDraw P call ops.toList (Region.before ops).toList nx ops.toList 0 env ⟨ob, nx + m, lg⟩ cs) fun r => R (.on, r.1, r.2)) : Got (rCode P call fuel (.region id ops true) env ⟨ob, nx, lg⟩) R := by
  subst hm; rw [zF]; exact h [] rfl
end
section
variable {P : Program} {call : CallFn} {fid : Nat} {env : Tr Value} {H : AHeap} {R : Value × AHeap → Prop} {d : Option Tmp} {ty t : TypeId} {ps : String} {af : Array Edge} {g : Option (Nat × Bool)} {ix : Operand} {lo hi : Option Operand} {s : ByteArray}
theorem st_ixC : Got (aStep P call (aEval env) ⟨d, .index t (.const (.string s)) ix, ty, ps, af, g⟩ fid H) R = Got (ixS P t (.string s) (aEval env ix)) fun v => R (v, H) := Js rfl
theorem st_slC : Got (aStep P call (aEval env) ⟨d, .slice t (.const (.string s)) lo hi none, ty, ps, af, g⟩ fid H) R = Got (slS P t (.string s) (lo.map (aEval env)) (hi.map (aEval env))) fun v => R (v, H) := Jt rfl
end
end Go.Proofs.YtedfjfpnpncgkaaDoor
