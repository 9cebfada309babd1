/- The abstract machine: a region whose order is drawn, where nothing is written: one operation at a time. No program in sight. -/
import Derived.Test.YtdfadipfhcikdaaGreatDoorAmC
namespace Go.Proofs.YtdfadipfhcikdaaGreatDoor
open Go.RowKit
set_option linter.unusedSimpArgs false
set_option linter.unusedVariables false

/-! ### the machine -/
section
variable {P : Program} {call : CallFn} {all os : List Oper} {bf : List Nat} {base k : Nat} {env : Tr Value} {ob : Tr AObj} {nx : Nat} {lg : List Nat} {Q : Tr Value × AHeap → Prop} {d : Option Tmp} {op : Op} {ty : TypeId} {ps : String} {af : Array Edge} {cs : List (Nat × Class)}
theorem yd_guard {j : Nat} {w : Bool} : Got (rDraw P call all bf base (⟨d, op, ty, ps, af, some (j, w)⟩ :: os) k env ⟨ob, nx, lg⟩ cs) Q = cond (wantedA ⟨d, op, ty, ps, af, some (j, w)⟩ all env)
    (Got (aStep P call (aEval env) ⟨d, op, ty, ps, af, none⟩ (base + k) ⟨ob, nx, []⟩) fun r =>
      calm bf k cs (zY (aEval env) (base + k) ⟨ob, nx, lg⟩ r.2 op) = true ∧ Got (rDraw P call all bf base os (k + 1) (putE env d r.1) ⟨r.2.objs, r.2.next, relogL lg r.2.log⟩ ((k, zY (aEval env) (base + k) ⟨ob, nx, lg⟩ r.2 op) :: cs)) Q)
    (Got (rDraw P call all bf base os (k + 1) (putE env d undef) ⟨ob, nx, lg⟩ cs) Q) := by
  simp only [rDraw]
  cases wantedA ⟨d, op, ty, ps, af, some (j, w)⟩ all env with
  | false => rfl
  | true =>
    simp only [cond]
    have e : aStep P call (aEval env) ⟨d, op, ty, ps, af, some (j, w)⟩ (base + k) ⟨ob, nx, []⟩ = aStep P call (aEval env) ⟨d, op, ty, ps, af, none⟩ (base + k) ⟨ob, nx, []⟩ := rfl
    rw [e]
    cases h : aStep P call (aEval env) ⟨d, op, ty, ps, af, none⟩ (base + k) ⟨ob, nx, []⟩ with
    | none => simp only [qM]
    | some s =>
      obtain ⟨v, H1⟩ := s
      simp only [qL, calm]
      cases cs.any fun p => !((bf[k]?).getD 0).testBit p.1 && clash p.2 (zY (aEval env) (base + k) ⟨ob, nx, lg⟩ H1 op) with
      | true => simp [qM]
      | false => simp [relogL]
end
/-! ### a region whose order is drawn, where nothing is written: one operation at a time -/
def quietC : Class → Bool
  | .pure => true
  | .load _ => true
  | .fresh _ => true
  | .other q w => q && w.isEmpty
theorem quietC_pure : quietC .pure = true := rfl
theorem quietC_load (i : Nat) : quietC (.load i) = true := rfl
theorem quietC_fresh (i : Nat) : quietC (.fresh i) = true := rfl
theorem quietC_other (q : Bool) (w : List Nat) : quietC (.other q w) = (q && w.isEmpty) := rfl
theorem clash_quiet {a b : Class} (ha : quietC a = true) (hb : quietC b = true) : clash a b = false := by
  cases a with
  | pure => exact zN b
  | load i => cases b with
    | pure => rfl
    | load j => rfl
    | fresh j => rfl
    | other q w =>
      rw [quietC_other, Bool.and_eq_true, List.isEmpty_iff] at hb
      rw [zS, hb.2]; rfl
  | fresh i => cases b with
    | pure => rfl
    | load j => rfl
    | fresh j => rfl
    | other q w =>
      rw [quietC_other, Bool.and_eq_true, List.isEmpty_iff] at hb
      rw [zU, hb.2]; rfl
  | other q w =>
    rw [quietC_other, Bool.and_eq_true, List.isEmpty_iff] at ha
    cases b with
    | pure => rfl
    | load j => rw [zT, ha.2]; rfl
    | fresh j => rw [zV, ha.2]; rfl
    | other q' w' =>
      rw [quietC_other, Bool.and_eq_true] at hb
      rw [zW, ha.1, hb.1]; rfl
theorem calm_quiet {bf : List Nat} {k : Nat} {cs : List (Nat × Class)} {c : Class} (hcs : cs.all (fun p => quietC p.2) = true) (hc : quietC c = true) : calm bf k cs c = true := by
  unfold calm
  rw [Bool.not_eq_true', List.any_eq_false]
  intro p hp
  rw [clash_quiet (List.all_eq_true.1 hcs p hp) hc]; simp
section
variable {P : Program} {call : CallFn} {all os : List Oper} {bf : List Nat} {base k : Nat} {env : Tr Value} {ob ob' : Tr AObj} {nx nx' : Nat} {lg l : List Nat} {Q : Tr Value × AHeap → Prop} {d : Option Tmp} {op : Op} {ty : TypeId} {ps : String} {af : Array Edge} {cs : List (Nat × Class)} {v : Value} {j : Nat} {w b : Bool}
theorem sq_op (hcs : cs.all (fun p => quietC p.2) = true) (h : Got (aStep P call (aEval env) ⟨d, op, ty, ps, af, none⟩ (base + k) ⟨ob, nx, []⟩) fun r => r = (v, ⟨ob', nx', l⟩)) (hq : quietC (zY (aEval env) (base + k) ⟨ob, nx, lg⟩ ⟨ob', nx', l⟩ op) = true)
    (h2 : ∀ cs' : List (Nat × Class), cs'.all (fun p => quietC p.2) = true → Got (rDraw P call all bf base os (k + 1) (putE env d v) ⟨ob', nx', relogL lg l⟩ cs') Q) : Got (rDraw P call all bf base (⟨d, op, ty, ps, af, none⟩ :: os) k env ⟨ob, nx, lg⟩ cs) Q := by
  rw [zH]
  exact h.mono fun a e => by
    subst e
    exact ⟨calm_quiet hcs hq, h2 _ (by rw [List.all_cons, hcs, hq]; rfl)⟩
theorem sq_guard (hw : wantedA ⟨d, op, ty, ps, af, some (j, w)⟩ all env = b) (h : cond b (Got (aStep P call (aEval env) ⟨d, op, ty, ps, af, none⟩ (base + k) ⟨ob, nx, []⟩) fun r =>
      calm bf k cs (zY (aEval env) (base + k) ⟨ob, nx, lg⟩ r.2 op) = true ∧ Got (rDraw P call all bf base os (k + 1) (putE env d r.1) ⟨r.2.objs, r.2.next, relogL lg r.2.log⟩ ((k, zY (aEval env) (base + k) ⟨ob, nx, lg⟩ r.2 op) :: cs)) Q)
    (Got (rDraw P call all bf base os (k + 1) (putE env d undef) ⟨ob, nx, lg⟩ cs) Q)) : Got (rDraw P call all bf base (⟨d, op, ty, ps, af, some (j, w)⟩ :: os) k env ⟨ob, nx, lg⟩ cs) Q := by
  rw [yd_guard, hw]; exact h
theorem sq_then {Y : Prop} (hcs : cs.all (fun p => quietC p.2) = true) (h : Got (aStep P call (aEval env) ⟨d, op, ty, ps, af, none⟩ (base + k) ⟨ob, nx, []⟩) fun r => r = (v, ⟨ob', nx', l⟩)) (hq : quietC (zY (aEval env) (base + k) ⟨ob, nx, lg⟩ ⟨ob', nx', l⟩ op) = true)
    (h2 : ∀ cs' : List (Nat × Class), cs'.all (fun p => quietC p.2) = true → Got (rDraw P call all bf base os (k + 1) (putE env d v) ⟨ob', nx', relogL lg l⟩ cs') Q) :
    cond true (Got (aStep P call (aEval env) ⟨d, op, ty, ps, af, none⟩ (base + k) ⟨ob, nx, []⟩) fun r =>
      calm bf k cs (zY (aEval env) (base + k) ⟨ob, nx, lg⟩ r.2 op) = true ∧ Got (rDraw P call all bf base os (k + 1) (putE env d r.1) ⟨r.2.objs, r.2.next, relogL lg r.2.log⟩ ((k, zY (aEval env) (base + k) ⟨ob, nx, lg⟩ r.2 op) :: cs)) Q) Y := h.mono fun a e => by
    subst e
    exact ⟨calm_quiet hcs hq, h2 _ (by rw [List.all_cons, hcs, hq]; rfl)⟩
theorem sq_nil {H : AHeap} (h : Q (env, H)) : Got (rDraw P call all bf base [] k env H cs) Q := by rw [zG]; exact h
theorem sq_region {fuel id m : Nat} {ops : Array Oper} {R : St → Prop} (hm : ops.toList.length = m) (h : ∀ cs : List (Nat × Class), cs.all (fun p => quietC p.2) = true → Got (rDraw P call ops.toList (Region.before ops).toList nx ops.toList 0 env ⟨ob, nx + m, lg⟩ cs) fun r => R (.on, r.1, r.2)) : Got (rCode P call fuel (.region id ops true) env ⟨ob, nx, lg⟩) R := by
  subst hm; rw [zF]; exact h [] rfl
end
section
variable {P : Program} {call : CallFn} {fid : Nat} {env : Tr Value} {H : AHeap} {R : Value × AHeap → Prop} {d : Option Tmp} {ty t : TypeId} {ps : String} {af : Array Edge} {g : Option (Nat × Bool)} {ix : Operand} {lo hi : Option Operand} {s : ByteArray}
theorem st_ixC : Got (aStep P call (aEval env) ⟨d, .index t (.const (.string s)) ix, ty, ps, af, g⟩ fid H) R = Got (ixS P t (.string s) (aEval env ix)) fun v => R (v, H) := Js rfl
theorem st_slC : Got (aStep P call (aEval env) ⟨d, .slice t (.const (.string s)) lo hi none, ty, ps, af, g⟩ fid H) R = Got (slS P t (.string s) (lo.map (aEval env)) (hi.map (aEval env))) fun v => R (v, H) := Jt rfl
end
end Go.Proofs.YtdfadipfhcikdaaGreatDoor

namespace Go.Proofs.YtdfadipfhcikdaaGreatDoor
open Go.RowKit
set_option linter.unusedSimpArgs false
set_option linter.unusedVariables false

section
variable {P : Program} {t e : TypeId} {cx : Bool}
theorem b_neq_sl (hu : P.underlying t = some (.slice e)) {a : Addr} {n c : Nat} : binV P .neq t cx true (.slice (some a) n c) (.slice none 0 0) = some (.bool true) := by cases cx <;> simp [binV, aPure, opnd, val2, Op.operands, flat, flat2, flat1, notSelect, aNilEq, aNilEq0, hu, kindFits, isNilConst, isNilV]
theorem b_eql_sl (hu : P.underlying t = some (.slice e)) {a : Addr} {n c : Nat} : binV P .eql t cx true (.slice (some a) n c) (.slice none 0 0) = some (.bool false) := by cases cx <;> simp [binV, aPure, opnd, val2, Op.operands, flat, flat2, flat1, notSelect, aNilEq, aNilEq0, hu, kindFits, isNilConst, isNilV]
end
/-! ### the form of the code -/
section
variable {P : Program} {call : CallFn} {fuel : Nat} {env : Tr Value} {H : AHeap} {Q : St → Prop} {a b : Code} {X Y : Prop} {id i : Nat} {c : Operand} {t : Bool} {k : Tr Value → AHeap → Prop}
theorem n_seq (h : Got (rCode P call fuel a env H) (onTo Q fun e h => Got (rCode P call fuel b e h) Q)) : Got (rCode P call fuel (.seq a b) env H) Q := by rw [za]; exact h
theorem n_on (h : k env H) : onTo Q k (.on, env, H) := h
theorem n_out (h : Q (.out i, env, H)) : onTo Q k (.out i, env, H) := h
theorem n_back (h : Q (.back, env, H)) : onTo Q k (.back, env, H) := h
theorem n_cond (hb : Got (qP (aEval env c)) fun x => x = t) (h : cond t (Got (rCode P call fuel a env H) Q) (Got (rCode P call fuel b env H) Q)) : Got (rCode P call fuel (.cond c a b) env H) Q := by
  rw [zd]; exact hb.mono fun x e => by rw [e]; exact h
theorem n_t (h : Got (rCode P call fuel a env H) Q) : cond true (Got (rCode P call fuel a env H) Q) Y := h
theorem n_skip (h : Q (.on, env, H)) : Got (rCode P call fuel .skip env H) Q := by rw [zg]; exact h
theorem n_ret (h : Q (.back, env, H)) : Got (rCode P call fuel .ret env H) Q := by rw [zh]; exact h
theorem n_exit (h : Q (.out i, env, H)) : Got (rCode P call fuel (.exit i) env H) Q := by rw [zj]; exact h
theorem n_label (h : Q (.on, env, H)) : Got (rCode P call fuel (.label i) env H) Q := by rw [zl]; exact h
theorem n_block (h : Got (rCode P call fuel a env H) (outOf id Q)) : Got (rCode P call fuel (.block id a) env H) Q := by rw [zm]; exact h
theorem n_scope (h : Got (rCode P call fuel a env H) (inScope Q)) : Got (rCode P call fuel (.scope a) env H) Q := by rw [zn]; exact h
theorem n_bon (h : Q (.on, env, H)) : outOf id Q (.on, env, H) := h
theorem n_bback (h : Q (.back, env, H)) : outOf id Q (.back, env, H) := h
theorem n_bout (e : Nat.beq i id = true) (h : Q (.on, env, H)) : outOf id Q (.out i, env, H) := by rw [zx, e]; exact h
theorem n_bfar (e : Nat.beq i id = false) (h : Q (.out i, env, H)) : outOf id Q (.out i, env, H) := by rw [zx, e]; exact h
theorem n_son (h : Q (.on, env, H)) : inScope Q (.on, env, H) := h
theorem n_sback (h : Q (.back, env, H)) : inScope Q (.back, env, H) := h
end

/-! ### a region whose order is drawn -/
/-- 0 looks at nothing and turns nothing; 1 looks at one row, or makes one; 2 looks at any; 3 makes new ones; 4 turns some -/
def kindOf : Class → Nat
  | .pure => 0
  | .load _ => 1
  | .fresh _ => 1
  | .other q w => cond w.isEmpty (cond q 2 3) 4
theorem kind_pure : kindOf .pure = 0 := rfl
theorem kind_load (i : Nat) : kindOf (.load i) = 1 := rfl
theorem kind_fresh (i : Nat) : kindOf (.fresh i) = 1 := rfl
theorem kind_other (q : Bool) (w : List Nat) : kindOf (.other q w) = cond w.isEmpty (cond q 2 3) 4 := rfl
def clashK (a b : Nat) : Bool := (Nat.ble 3 a && Nat.ble 2 b) || ((Nat.ble 2 a && Nat.ble 3 b) || ((Nat.beq a 4 && Nat.beq b 1) || (Nat.beq a 1 && Nat.beq b 4)))
theorem clash_k {a b : Class} (h : clashK (kindOf a) (kindOf b) = false) : clash a b = false := by
  cases a with
  | pure => exact zN b
  | load i => cases b with
    | pure => rfl
    | load j => rfl
    | fresh j => rfl
    | other q w => cases w with
      | nil => rfl
      | cons x w => cases q <;> simp [kindOf, clashK] at h
  | fresh i => cases b with
    | pure => rfl
    | load j => rfl
    | fresh j => rfl
    | other q w => cases w with
      | nil => rfl
      | cons x w => cases q <;> simp [kindOf, clashK] at h
  | other q w => cases b with
    | pure => rfl
    | load j => cases w with
      | nil => rfl
      | cons x w => cases q <;> simp [kindOf, clashK] at h
    | fresh j => cases w with
      | nil => rfl
      | cons x w => cases q <;> simp [kindOf, clashK] at h
    | other q' w' => cases w <;> cases w' <;> cases q <;> cases q' <;> first | rfl | simp [kindOf, clashK] at h
abbrev kindsOf (cs : List (Nat × Class)) : List (Nat × Nat) := cs.map fun p => (p.1, kindOf p.2)
/-- nothing ahead that need not be ahead is touched -/
def calmK (bf : List Nat) (k : Nat) (S : List (Nat × Nat)) (c : Nat) : Bool := Nat.beq c 0 || S.all fun p => ((bf[k]?).getD 0).testBit p.1 || !clashK p.2 c
theorem calm_k {bf : List Nat} {k : Nat} {S : List (Nat × Nat)} {cs : List (Nat × Class)} {c : Class} {n : Nat} (hS : kindsOf cs = S) (hn : kindOf c = n) (h : calmK bf k S n = true) : calm bf k cs c = true := by
  subst hS hn
  unfold calm
  rw [Bool.not_eq_true', List.any_eq_false]
  intro p hp
  rw [Bool.not_eq_true]
  unfold calmK at h
  cases hc : Nat.beq (kindOf c) 0 with
  | true =>
    have : clash p.2 c = false := by
      cases c with
      | pure => exact zM _
      | load i => cases hc
      | fresh i => cases hc
      | other q w => cases w <;> cases q <;> cases hc
    rw [this, Bool.and_false]
  | false =>
    rw [hc, Bool.false_or, List.all_eq_true] at h
    have := h (p.1, kindOf p.2) (List.mem_map.2 ⟨p, hp, rfl⟩)
    simp only at this
    cases hb : ((bf[k]?).getD 0).testBit p.1 with
    | true => rfl
    | false =>
      rw [hb, Bool.false_or, Bool.not_eq_true'] at this
      rw [clash_k this]; rfl
/-- the rest of a region; the kinds of those ahead are told beside their classes -/
def GotD (P : Program) (call : CallFn) (all : List Oper) (bf : List Nat) (base : Nat) (os : List Oper) (k : Nat) (env : Tr Value) (H : AHeap) (S : List (Nat × Nat)) (cs : List (Nat × Class)) (Q : Tr Value × AHeap → Prop) : Prop :=
  kindsOf cs = S → Got (rDraw P call all bf base os k env H cs) Q
/-- an operation is in no one's way: by its kind, or by the rows themselves -/
def CalmD (bf : List Nat) (k : Nat) (S : List (Nat × Nat)) (cs : List (Nat × Class)) (n : Nat) (c : Class) : Prop := calmK bf k S n = true ∨ calm bf k cs c = true
theorem calmK_in {bf : List Nat} {k : Nat} {S : List (Nat × Nat)} {cs : List (Nat × Class)} {n : Nat} {c : Class} (h : calmK bf k S n = true) : CalmD bf k S cs n c := .inl h
theorem calm_in {bf : List Nat} {k : Nat} {S : List (Nat × Nat)} {cs : List (Nat × Class)} {n : Nat} {c : Class} (h : ∀ p ∈ cs, clash p.2 c = false) : CalmD bf k S cs n c := .inr (by
  unfold calm
  rw [Bool.not_eq_true', List.any_eq_false]
  intro p hp
  rw [h p hp]; simp)
section
variable {P : Program} {call : CallFn} {all os : List Oper} {bf : List Nat} {base k : Nat} {env : Tr Value} {ob ob' : Tr AObj} {nx nx' : Nat} {lg l : List Nat} {Q : Tr Value × AHeap → Prop} {d : Option Tmp} {op : Op} {ty : TypeId} {ps : String} {af : Array Edge} {v : Value} {j n : Nat} {w b : Bool} {S : List (Nat × Nat)} {cs : List (Nat × Class)} {Y : Prop}
theorem d_op {lg' : List Nat} {cl : Class} (h : Got (aStep P call (aEval env) ⟨d, op, ty, ps, af, none⟩ (base + k) ⟨ob, nx, []⟩) fun r => r = (v, ⟨ob', nx', l⟩) ∧ zY (aEval env) (base + k) ⟨ob, nx, lg⟩ r.2 op = cl ∧ kindOf (zY (aEval env) (base + k) ⟨ob, nx, lg⟩ r.2 op) = n ∧ relogL lg r.2.log = lg') (hb : CalmD bf k S cs n cl)
    (h2 : GotD P call all bf base os (k + 1) (putE env d v) ⟨ob', nx', lg'⟩ ((k, n) :: S) ((k, cl) :: cs) Q) : GotD P call all bf base (⟨d, op, ty, ps, af, none⟩ :: os) k env ⟨ob, nx, lg⟩ S cs Q := by
  intro hS
  rw [zH]
  refine h.mono fun a e => ?_
  obtain ⟨e, hc, hk, hl⟩ := e
  subst e hl hc
  refine ⟨hb.elim (fun hb => calm_k hS hk hb) id, h2 ?_⟩
  show (k, _) :: kindsOf cs = _
  rw [hS, hk]
theorem d_guard (hw : wantedA ⟨d, op, ty, ps, af, some (j, w)⟩ all env = b) (h : cond b (GotD P call all bf base (⟨d, op, ty, ps, af, none⟩ :: os) k env ⟨ob, nx, lg⟩ S cs Q) (GotD P call all bf base os (k + 1) (putE env d undef) ⟨ob, nx, lg⟩ S cs Q)) :
    GotD P call all bf base (⟨d, op, ty, ps, af, some (j, w)⟩ :: os) k env ⟨ob, nx, lg⟩ S cs Q := by
  intro hS
  refine sq_guard hw ?_
  cases b with
  | true =>
    have := h hS
    rw [zH] at this
    exact this
  | false => exact h hS
theorem d_t (h : GotD P call all bf base os k env ⟨ob, nx, lg⟩ S cs Q) : cond true (GotD P call all bf base os k env ⟨ob, nx, lg⟩ S cs Q) Y := h
/-- an operation of which only something is known -/
theorem d_do (R : Value × AHeap → Prop) (n : Nat) (h : Got (aStep P call (aEval env) ⟨d, op, ty, ps, af, none⟩ (base + k) ⟨ob, nx, []⟩) R) (hk : ∀ r, R r → kindOf (zY (aEval env) (base + k) ⟨ob, nx, lg⟩ r.2 op) = n) (hb : calmK bf k S n = true)
    (h2 : ∀ v o' nx' l, R (v, ⟨o', nx', l⟩) → ∀ cl, GotD P call all bf base os (k + 1) (putE env d v) ⟨o', nx', relogL lg l⟩ ((k, n) :: S) ((k, cl) :: cs) Q) : GotD P call all bf base (⟨d, op, ty, ps, af, none⟩ :: os) k env ⟨ob, nx, lg⟩ S cs Q := by
  intro hS
  rw [zH]
  refine h.mono fun a e => ?_
  obtain ⟨v, o', nx', l⟩ := a
  refine ⟨calm_k hS (hk _ e) hb, h2 v o' nx' l e _ ?_⟩
  show (k, _) :: kindsOf cs = _
  rw [hS, hk _ e]
/-- behind a region -/
def regEnd (R : St → Prop) : Tr Value × AHeap → Prop
  | (e, h) => R (.on, e, h)
theorem n_nil {H : AHeap} {R : St → Prop} (h : R (.on, env, H)) : Got (rOps P call all base [] k env H) (regEnd R) := by rw [zB]; exact h
theorem d_nil {H : AHeap} {R : St → Prop} (h : R (.on, env, H)) : GotD P call all bf base [] k env H S cs (regEnd R) := fun _ => by rw [zG]; exact h
theorem n_region {fuel id m : Nat} {ops : Array Oper} {R : St → Prop} (hm : lenL ops.toList = m) (h : Got (rOps P call ops.toList nx ops.toList 0 env ⟨ob, nx + m, lg⟩) (regEnd R)) : Got (rCode P call fuel (.region id ops false) env ⟨ob, nx, lg⟩) R := by
  subst hm; rw [zb]; exact h
theorem d_region {fuel id m : Nat} {ops : Array Oper} {R : St → Prop} (hm : lenL ops.toList = m) (h : GotD P call ops.toList (Region.before ops).toList nx ops.toList 0 env ⟨ob, nx + m, lg⟩ [] [] (regEnd R)) : Got (rCode P call fuel (.region id ops true) env ⟨ob, nx, lg⟩) R := by
  subst hm; rw [zF]; exact h rfl
theorem n_guard {H : AHeap} (hw : wantedA ⟨d, op, ty, ps, af, some (j, w)⟩ all env = b) (h : cond b (Got (rOps P call all base (⟨d, op, ty, ps, af, none⟩ :: os) k env H) Q) (Got (rOps P call all base os (k + 1) (putE env d undef) H) Q)) :
    Got (rOps P call all base (⟨d, op, ty, ps, af, some (j, w)⟩ :: os) k env H) Q := by
  refine s_guard hw ?_
  cases b with
  | true =>
    have h : Got (rOps P call all base (⟨d, op, ty, ps, af, none⟩ :: os) k env H) Q := h
    rw [zC] at h
    exact h
  | false => exact h
theorem n_gt {H : AHeap} (h : Got (rOps P call all base os k env H) Q) : cond true (Got (rOps P call all base os k env H) Q) Y := h
theorem n_fin {rs : List ResultVar} {H H' : AHeap} {v : Value} {Q : Value × AHeap → Prop} (h : Got (aResults P env H' rs) fun r => oneOf r = v) (h2 : Q (leave H v H')) : fnEnd P rs H Q (.on, env, H') := by
  rw [qU]; exact h.mono fun r e => by rw [e]; exact h2
theorem n_finb {rs : List ResultVar} {H H' : AHeap} {v : Value} {Q : Value × AHeap → Prop} (h : Got (aResults P env H' rs) fun r => oneOf r = v) (h2 : Q (leave H v H')) : fnEnd P rs H Q (.back, env, H') := by
  rw [qV]; exact h.mono fun r e => by rw [e]; exact h2
end
theorem quiet_end {o o' : Tr AObj} {nx nx' : Nat} {lg l : List Nat} {v : Value} {R : Value × AHeap → Prop} (h1 : l.all (fun i => Nat.ble nx i) = true) (h2 : lowV nx v = true) (h : R (v, ⟨o, nx, lg⟩)) : R (leave ⟨o, nx, lg⟩ v ⟨o', nx', l⟩) := by rw [Ja h1 h2]; exact h
theorem in_note {x i : Nat} {l : List Nat} : x ∈ noteId i l ↔ x = i ∨ x ∈ l := by
  unfold noteId
  cases h : l.any (Nat.beq i) with
  | true =>
    simp only [cond]
    refine ⟨.inr, fun hx => hx.elim (fun e => ?_) id⟩
    subst e
    obtain ⟨y, hy, he⟩ := List.any_eq_true.1 h
    rw [Nat.eq_of_beq_eq_true he]; exact hy
  | false => simp only [cond, List.mem_cons]
theorem in_relogL {x : Nat} : ∀ {l lg : List Nat}, x ∈ relogL lg l ↔ x ∈ lg ∨ x ∈ l
  | [], lg => by simp [relogL]
  | i :: l, lg => by
    show x ∈ relogL (noteId i lg) l ↔ _
    rw [in_relogL, in_note, List.mem_cons]
    constructor
    · rintro ((h | h) | h)
      · exact .inr (.inl h)
      · exact .inl h
      · exact .inr (.inr h)
    · rintro (h | h | h)
      · exact .inl (.inr h)
      · exact .inl (.inl h)
      · exact .inr h
theorem not_all {x nx : Nat} {l : List Nat} (h : x ∈ l) (hx : x < nx) : l.all (fun i => Nat.ble nx i) = false := by
  rw [List.all_eq_false]
  exact ⟨x, h, by rw [ble_old hx]; decide⟩
theorem leave_log0 {o o' : Tr AObj} {nx nx' : Nat} {lg l : List Nat} {v : Value} (h : (l.all (fun i => Nat.ble nx i) && lowV nx v) = false) : ∃ l', leave ⟨o, nx, lg⟩ v ⟨o', nx', l⟩ = (v, ⟨o', nx', l'⟩) ∧ (∀ y, y ∈ lg → y ∈ l') ∧ ∀ y, y ∈ l → y < nx → y ∈ l' := by
  unfold leave
  simp only [h, cond]
  have key : ∀ y, y ∈ (l.filter fun i => Nat.blt i nx).foldl (fun l i => noteId i l) lg ↔ y ∈ lg ∨ y ∈ l.filter fun i => Nat.blt i nx := fun y => in_relogL
  exact ⟨_, rfl, fun y hy => (key y).2 (.inl hy), fun y hy hlt => (key y).2 (.inr (List.mem_filter.2 ⟨hy, by rw [Nat.blt_eq]; exact hlt⟩))⟩
theorem leave_log {o o' : Tr AObj} {nx nx' : Nat} {lg l : List Nat} {v : Value} (h : l.all (fun i => Nat.ble nx i) = false) : ∃ l', leave ⟨o, nx, lg⟩ v ⟨o', nx', l⟩ = (v, ⟨o', nx', l'⟩) ∧ (∀ y, y ∈ lg → y ∈ l') ∧ ∀ y, y ∈ l → y < nx → y ∈ l' := leave_log0 (by rw [h]; rfl)
theorem new_end {o o' : Tr AObj} {nx nx' : Nat} {lg l : List Nat} {v : Value} {R : Value × AHeap → Prop} (hv : lowV nx v = false) (h : ∀ l', (∀ y, y ∈ lg → y ∈ l') → (∀ y, y ∈ l → y < nx → y ∈ l') → R (v, ⟨o', nx', l'⟩)) : R (leave ⟨o, nx, lg⟩ v ⟨o', nx', l⟩) := by
  obtain ⟨l', e, h1, h2⟩ := leave_log0 (o := o) (o' := o') (nx' := nx') (lg := lg) (l := l) (v := v) (by rw [hv, Bool.and_false])
  rw [e]; exact h l' h1 h2
theorem loud_end {o o' : Tr AObj} {nx nx' x : Nat} {lg l : List Nat} {v : Value} {R : Value × AHeap → Prop} (hx : x ∈ l) (hlt : x < nx) (h : ∀ l', (∀ y, y ∈ lg → y ∈ l') → (∀ y, y ∈ l → y < nx → y ∈ l') → R (v, ⟨o', nx', l'⟩)) : R (leave ⟨o, nx, lg⟩ v ⟨o', nx', l⟩) := by
  obtain ⟨l', e, h1, h2⟩ := leave_log (o := o) (o' := o') (nx' := nx') (lg := lg) (v := v) (not_all hx hlt)
  rw [e]; exact h l' h1 h2
/-- what a call leaves: the memory as it was, if none of its rows was turned -/
theorem leave_split {o o' : Tr AObj} {nx nx' : Nat} {lg l : List Nat} {v : Value} (hv : lowV nx v = true) : (∃ l', leave ⟨o, nx, lg⟩ v ⟨o', nx', l⟩ = (v, ⟨o', nx', l'⟩) ∧ (∀ y, y ∈ lg → y ∈ l') ∧ ∀ y, y ∈ l → y < nx → y ∈ l') ∨ (l.all (fun i => Nat.ble nx i) = true ∧ leave ⟨o, nx, lg⟩ v ⟨o', nx', l⟩ = (v, ⟨o, nx, lg⟩)) := by
  cases e : l.all (fun i => Nat.ble nx i) with
  | true => exact .inr ⟨rfl, Ja e hv⟩
  | false => exact .inl (leave_log e)
set_option maxRecDepth 100000 in
/-- the laws of symbolic running, in one: the simplifier takes them apart -/
def sy3 := PLift.up (And.intro (And.intro (And.intro (And.intro (And.intro (And.intro (And.intro (@za) (And.intro (@zb) (@zd))) (And.intro (@zg) (And.intro (@zh) (@zj)))) (And.intro (And.intro (@zl) (And.intro (@zm) (@zn))) (And.intro (And.intro (@zp) (@zq)) (And.intro (@zr) (@zu))))) (And.intro (And.intro (And.intro (@zw) (And.intro (@zx) (@zy))) (And.intro (And.intro (@zA) (@zB)) (And.intro (@zC) (@zD)))) (And.intro (And.intro (@zE) (And.intro (@zF) (@zG))) (And.intro (And.intro (@zH) (@zI)) (And.intro (@zJ) (@zK)))))) (And.intro (And.intro (And.intro (And.intro (@zL) (And.intro (@zM) (@zN))) (And.intro (And.intro (@zO) (@zP)) (And.intro (@zQ) (@zR)))) (And.intro (And.intro (@zS) (And.intro (@zT) (@zU))) (And.intro (And.intro (@zV) (@zW)) (And.intro (@List.any_nil.{0}) (@zX))))) (And.intro (And.intro (And.intro (@List.isEmpty_nil.{0}) (And.intro (@Bool.true_or) (@Bool.or_true))) (And.intro (And.intro (@zZ) (@qb)) (And.intro (@qc) (@qd)))) (And.intro (And.intro (@qe) (And.intro (@qf) (@qg))) (And.intro (And.intro (@qh) (@qi)) (And.intro (@qj) (@qk))))))) (And.intro (And.intro (And.intro (And.intro (And.intro (@qo) (And.intro (@qp) (@qr))) (And.intro (And.intro (@qs) (@qt)) (And.intro (@qu) (@qx)))) (And.intro (And.intro (@qy) (And.intro (@qz) (@qA))) (And.intro (And.intro (@qB) (@qC)) (And.intro (@qD) (@qE))))) (And.intro (And.intro (And.intro (@qF) (And.intro (@Tr.get_nil) (@qH))) (And.intro (And.intro (@qI) (@qJ)) (And.intro (@qK) (@qL)))) (And.intro (And.intro (@qM) (And.intro (@qN) (@qO))) (And.intro (And.intro (@qU) (@qV)) (And.intro (@qW) (@qX)))))) (And.intro (And.intro (And.intro (And.intro (@qY) (And.intro (@qZ) (@ja))) (And.intro (And.intro (@jb) (@jc)) (And.intro (@jd) (@Option.getD_some.{0})))) (And.intro (And.intro (@Option.getD_none.{0}) (And.intro (@Option.bind_some.{0, 0}) (@Option.bind_none.{0, 0}))) (And.intro (And.intro (@Option.map_some.{0, 0}) (@Option.map_none.{0, 0})) (And.intro (@List.length_cons.{0}) (@List.length_nil.{0}))))) (And.intro (And.intro (And.intro (@List.getElem?_cons_succ.{0}) (And.intro (@List.getElem?_cons_zero.{0}) (@not_false_eq_true))) (And.intro (And.intro (@Nat.add_zero) (@Nat.zero_add)) (And.intro (@Nat.add_assoc) (@List.map_cons.{0, 0})))) (And.intro (And.intro (@List.map_nil.{0, 0}) (And.intro (@List.nil_append.{0}) (@List.append_nil.{0}))) (And.intro (And.intro (@List.cons_append.{0}) (@Bool.not_true)) (And.intro (@Bool.not_false) (@jk)))))))) (And.intro (And.intro (And.intro (And.intro (And.intro (And.intro (@jn) (And.intro (@jo) (@jp))) (And.intro (@jq) (And.intro (@jr) (@Nat.add_left_cancel_iff)))) (And.intro (And.intro (@js) (And.intro (@List.all_nil.{0}) (@jt))) (And.intro (And.intro (@ju) (@Bool.and_self)) (And.intro (@Bool.and_true) (@Bool.true_and))))) (And.intro (And.intro (And.intro (@true_and) (And.intro (@and_true) (@jv))) (And.intro (And.intro (@jw) (@jx)) (And.intro (@jy) (@jz)))) (And.intro (And.intro (@jA) (And.intro (@jB) (@jC))) (And.intro (And.intro (@jD) (@jE)) (And.intro (@jF) (@jH)))))) (And.intro (And.intro (And.intro (And.intro (@jI) (And.intro (@jJ) (@jK))) (And.intro (And.intro (@jL) (@jM)) (And.intro (@jN) (@jO)))) (And.intro (And.intro (@jP) (And.intro (@jQ) (@jR))) (And.intro (And.intro (@jS) (@jT)) (And.intro (@jU) (@jV))))) (And.intro (And.intro (And.intro (@jW) (And.intro (@jX) (@jY))) (And.intro (And.intro (@jZ) (@Ja)) (And.intro (@List.set_cons_zero.{0}) (@List.set_cons_succ.{0})))) (And.intro (And.intro (@and_self) (And.intro (@List.size_toArray.{0}) (@Nat.lt_add_one))) (And.intro (And.intro (@Nat.zero_lt_succ) (@List.getElem?_toArray.{0})) (And.intro (@Jb) (@Jc))))))) (And.intro (And.intro (And.intro (And.intro (And.intro (@Jd) (And.intro (@Je) (@Jf))) (And.intro (And.intro (@Jg) (@Jh)) (And.intro (@Ji) (@Jj)))) (And.intro (And.intro (@Jk) (And.intro (@Jl) (@decide_true))) (And.intro (And.intro (@decide_false) (@Jm)) (And.intro (@Jn) (@Jo))))) (And.intro (And.intro (And.intro (@Jp) (And.intro (@Jq) (@Jr))) (And.intro (And.intro (@Bool.or_false) (@Bool.false_or)) (And.intro (@Bool.false_and) (@Bool.and_false)))) (And.intro (And.intro (@Bool.or_self) (And.intro (@Js) (@Jt))) (And.intro (And.intro (@Ju) (@Jv)) (And.intro (@Jw) (@Jx)))))) (And.intro (And.intro (And.intro (And.intro (@Jy) (And.intro (@Jz) (@JA))) (And.intro (And.intro (@JB) (@JC)) (And.intro (@JD) (@JE)))) (And.intro (And.intro (@JF) (And.intro (@JG) (@JH))) (And.intro (And.intro (@JI) (@JJ)) (And.intro (@JK) (@JL))))) (And.intro (And.intro (And.intro (@JM) (And.intro (@JN) (@JO))) (And.intro (And.intro (@JP) (@JQ)) (And.intro (@JR) (@JS)))) (And.intro (And.intro (@JT) (And.intro (@JU) (@JV))) (And.intro (And.intro (@JW) (@JX)) (And.intro (@JY) (@JZ)))))))))
end Go.Proofs.YtdfadipfhcikdaaGreatDoor

namespace Go.Proofs.YtdfadipfhcikdaaGreatDoor
open Go.RowKit
/-! ### which part of the code -/
def sqL : Code → Code
  | .seq a _ => a
  | c => c
def sqR : Code → Code
  | .seq _ b => b
  | c => c
def blkIn : Code → Code
  | .block _ b => b
  | c => c
def lpIn : Code → Code
  | .loop b => b
  | c => c
def cdT : Code → Code
  | .cond _ a _ => a
  | c => c
def cdF : Code → Code
  | .cond _ _ b => b
  | c => c
def bodyOf (f : Func) : Code := match f.body with
  | some c => c
  | none => .skip
end Go.Proofs.YtdfadipfhcikdaaGreatDoor
