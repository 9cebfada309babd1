/- Running the abstract machine on values and memories that are not known whole: laws for the simplifier. No program in sight. -/
import Derived.Test.YtmflapajjghpmaaAmRaw
namespace Go.Proofs.Ytmflapajjghpmaa
open Go.RowKit

/-- there is an answer, and it is so -/
def Got {α : Type} (r : Option α) (Q : α → Prop) : Prop := ∃ a, r = some a ∧ Q a
theorem got_some {α : Type} (a : α) (Q : α → Prop) : Got (some a) Q = Q a := by
  apply propext; constructor
  · rintro ⟨b, hb, hq⟩; cases hb; exact hq
  · exact fun h => ⟨a, rfl, h⟩
theorem got_none {α : Type} (Q : α → Prop) : Got none Q = False := by
  apply propext; constructor
  · rintro ⟨b, hb, _⟩; cases hb
  · exact False.elim
theorem got_map {α γ : Type} (r : Option α) (f : α → γ) (Q : γ → Prop) : Got (r.map f) Q = Got r fun a => Q (f a) := by
  cases r with
  | none => simp only [Option.map_none, got_none]
  | some a => simp only [Option.map_some, got_some]
theorem got_bind {α γ : Type} (r : Option α) (f : α → Option γ) (Q : γ → Prop) : Got (r.bind f) Q = Got r fun a => Got (f a) Q := by
  cases r with
  | none => simp only [Option.bind_none, got_none]
  | some a => simp only [Option.bind_some, got_some]
theorem Got.mono {α : Type} {r : Option α} {Q R : α → Prop} (h : Got r Q) (k : ∀ a, Q a → R a) : Got r R := by
  obtain ⟨a, e, q⟩ := h; exact ⟨a, e, k a q⟩
@[congr] theorem got_congr {α : Type} {r r' : Option α} {Q : α → Prop} (h : r = r') : Got r Q = Got r' Q := by rw [h]

/-- of a choice that is settled one way alone is looked at -/
@[congr] theorem cond_congr' {α : Sort _} {c c' : Bool} {a b : α} (h : c = c') : cond c a b = cond c' a b := by rw [h]
abbrev St := Way × Tr Value × AHeap
section
variable {P : Program} {call : CallFn} {fuel : Nat} {env : Tr Value} {H : AHeap} {Q : St → Prop}
@[congr] theorem rCode_congr {c : Code} {env' : Tr Value} {H' : AHeap} (h : env = env') (k : H = H') : rCode P call fuel c env H = rCode P call fuel c env' H' := by rw [h, k]
/-- what goes on behind a piece of code -/
def onTo (Q : St → Prop) (k : Tr Value → AHeap → Prop) : St → Prop
  | (.on, e, H) => k e H
  | (.out i, e, H) => Q (.out i, e, H)
  | (.back, e, H) => Q (.back, e, H)
theorem onTo_on (k : Tr Value → AHeap → Prop) (e : Tr Value) (h : AHeap) : onTo Q k (.on, e, h) = k e h := rfl
theorem onTo_out (k : Tr Value → AHeap → Prop) (i : Nat) (e : Tr Value) (h : AHeap) : onTo Q k (.out i, e, h) = Q (.out i, e, h) := rfl
theorem onTo_back (k : Tr Value → AHeap → Prop) (e : Tr Value) (h : AHeap) : onTo Q k (.back, e, h) = Q (.back, e, h) := rfl
theorem y_seq {a b : Code} : Got (rCode P call fuel (.seq a b) env H) Q = Got (rCode P call fuel a env H) (onTo Q fun e h => Got (rCode P call fuel b e h) Q) := by
  simp only [rCode]
  cases h : rCode P call fuel a env H with
  | none => simp only [got_none]
  | some s =>
    obtain ⟨w, e, H1⟩ := s
    cases w <;> simp only [got_some, onTo]
def boolOf : Value → Option Bool
  | .bool t => some t
  | _ => none
theorem y_cond {c : Operand} {a b : Code} : Got (rCode P call fuel (.cond c a b) env H) Q = Got (boolOf (aEval env c)) fun t => cond t (Got (rCode P call fuel a env H) Q) (Got (rCode P call fuel b env H) Q) := by
  simp only [rCode]
  unfold boolOf
  cases h : aEval env c with
  | bool t => simp only [got_some]; cases t <;> rfl
  | _ => simp only [got_none]
theorem y_skip : Got (rCode P call fuel .skip env H) Q = Q (.on, env, H) := by simp only [rCode, got_some]
theorem y_ret : Got (rCode P call fuel .ret env H) Q = Q (.back, env, H) := by simp only [rCode, got_some]
theorem y_exit {i : Nat} : Got (rCode P call fuel (.exit i) env H) Q = Q (.out i, env, H) := by simp only [rCode, got_some]
theorem y_label {i : Nat} : Got (rCode P call fuel (.label i) env H) Q = Q (.on, env, H) := by simp only [rCode, got_some]
def outOf (id : Nat) (Q : St → Prop) : St → Prop
  | (.out i, e, H) => cond (Nat.beq i id) (Q (.on, e, H)) (Q (.out i, e, H))
  | (.on, e, H) => Q (.on, e, H)
  | (.back, e, H) => Q (.back, e, H)
theorem outOf_on (id : Nat) (e : Tr Value) (h : AHeap) : outOf id Q (.on, e, h) = Q (.on, e, h) := rfl
theorem outOf_back (id : Nat) (e : Tr Value) (h : AHeap) : outOf id Q (.back, e, h) = Q (.back, e, h) := rfl
theorem outOf_out (id i : Nat) (e : Tr Value) (h : AHeap) : outOf id Q (.out i, e, h) = cond (Nat.beq i id) (Q (.on, e, h)) (Q (.out i, e, h)) := rfl
theorem y_block {id : Nat} {c : Code} : Got (rCode P call fuel (.block id c) env H) Q = Got (rCode P call fuel c env H) (outOf id Q) := by
  simp only [rCode]
  cases h : rCode P call fuel c env H with
  | none => simp only [got_none]
  | some s =>
    obtain ⟨w, e, H1⟩ := s
    cases w with
    | out i => simp only [got_some, outOf]; cases Nat.beq i id <;> simp only [cond, got_some]
    | on => simp only [got_some, outOf]
    | back => simp only [got_some, outOf]
def inScope (Q : St → Prop) : St → Prop
  | (.out _, _, _) => False
  | (.on, e, H) => Q (.on, e, H)
  | (.back, e, H) => Q (.back, e, H)
theorem inScope_on (e : Tr Value) (h : AHeap) : inScope Q (.on, e, h) = Q (.on, e, h) := rfl
theorem inScope_back (e : Tr Value) (h : AHeap) : inScope Q (.back, e, h) = Q (.back, e, h) := rfl
theorem y_scope {c : Code} : Got (rCode P call fuel (.scope c) env H) Q = Got (rCode P call fuel c env H) (inScope Q) := by
  simp only [rCode]
  cases h : rCode P call fuel c env H with
  | none => simp only [got_none]
  | some s =>
    obtain ⟨w, e, H1⟩ := s
    cases w <;> simp only [got_some, got_none, inScope]
/-- a loop, by an invariant over a number that falls -/
theorem y_loop {c : Code} (I : Nat → Tr Value → AHeap → Prop)
    (step : ∀ n env H, I n env H → Got (rCode P call fuel c env H) (onTo Q fun e h => ∃ m, m < n ∧ I m e h)) :
    ∀ (n f : Nat) env H, I n env H → n < f → Got (loopN (rCode P call fuel c) Way.isOn f env H) Q := by
  intro n
  induction n using Nat.strongRecOn with
  | _ n ih =>
    intro f env H hI hf
    cases f with
    | zero => omega
    | succ f =>
      obtain ⟨⟨w, e, h⟩, hr, hq⟩ := step n env H hI
      simp only [loopN, hr]
      cases w with
      | on =>
        obtain ⟨m, hm, hi⟩ := hq
        simp only [Way.isOn, cond]
        exact ih m hm f e h hi (by omega)
      | out i => simp only [Way.isOn, cond, got_some]; exact hq
      | back => simp only [Way.isOn, cond, got_some]; exact hq
theorem y_loop_eq {c : Code} : Got (rCode P call fuel (.loop c) env H) Q = Got (loopN (rCode P call fuel c) Way.isOn fuel env H) Q := rfl
end

/-- how many operations; which temporary one writes: the simplifier does not look into them -/
def lenL (l : List Oper) : Nat := l.length
@[congr] theorem lenL_congr (l : List Oper) : lenL l = lenL l := rfl
theorem lenL_nil : lenL [] = 0 := rfl
theorem lenL_cons (a : Oper) (l : List Oper) : lenL (a :: l) = lenL l + 1 := rfl
theorem lenL_app (a b : List Oper) : lenL (List.append a b) = lenL a + lenL b := List.length_append
def dstAt (all : List Oper) (j : Nat) : Option Tmp := (all[j]?).bind (·.dst)
@[congr] theorem dstAt_congr (all : List Oper) {j j' : Nat} (h : j = j') : dstAt all j = dstAt all j' := by rw [h]
theorem dstAt_zero (d : Option Tmp) (op : Op) (ty : TypeId) (ps : String) (af : Array Edge) (g : Option (Nat × Bool)) (l : List Oper) : dstAt (⟨d, op, ty, ps, af, g⟩ :: l) 0 = d := rfl
theorem dstAt_succ (o : Oper) (l : List Oper) (j : Nat) : dstAt (o :: l) (j + 1) = dstAt l j := rfl
theorem dstAt_app (a b : List Oper) (j : Nat) : dstAt (List.append a b) j = if j < lenL a then dstAt a j else dstAt b (j - lenL a) := by
  unfold dstAt lenL
  rw [List.append_eq]
  split
  · rename_i h; rw [List.getElem?_append_left h]
  · rename_i h; rw [List.getElem?_append_right (by omega)]
section
variable {P : Program} {call : CallFn} {fuel id : Nat} {ops : Array Oper} {env : Tr Value} {o : Tr AObj} {nx : Nat} {lg : List Nat} {Q : St → Prop}
theorem y_region : Got (rCode P call fuel (.region id ops false) env ⟨o, nx, lg⟩) Q = Got (rOps P call ops.toList nx ops.toList 0 env ⟨o, nx + lenL ops.toList, lg⟩) fun r => Q (.on, r.1, r.2) := by
  simp only [rCode, cond, got_map, lenL]
theorem y_draw : Got (rCode P call fuel (.region id ops true) env ⟨o, nx, lg⟩) Q = Got (rDraw P call ops.toList (Region.before ops).toList nx ops.toList 0 env ⟨o, nx + lenL ops.toList, lg⟩ []) fun r => Q (.on, r.1, r.2) := by
  simp only [rCode, cond, got_map, lenL]
end

section
variable {P : Program} {call : CallFn} {all os : List Oper} {base k : Nat} {env : Tr Value} {H : AHeap} {Q : Tr Value × AHeap → Prop} {d : Option Tmp} {op : Op} {ty : TypeId} {ps : String} {af : Array Edge} {g : Option (Nat × Bool)}
@[congr] theorem rOps_congr {env' : Tr Value} {H' : AHeap} (h : env = env') (h2 : H = H') : rOps P call all base os k env H = rOps P call all base os k env' H' := by rw [h, h2]
theorem y_nil : Got (rOps P call all base [] k env H) Q = Q (env, H) := by simp only [rOps, got_some]
theorem y_op : Got (rOps P call all base (⟨d, op, ty, ps, af, none⟩ :: os) k env H) Q = Got (aStep P call (aEval env) ⟨d, op, ty, ps, af, none⟩ (base + k) H) fun r => Got (rOps P call all base os (k + 1) (putE env d r.1) r.2) Q := by
  simp only [rOps, wantedA, cond]
  cases h : aStep P call (aEval env) ⟨d, op, ty, ps, af, none⟩ (base + k) H with
  | none => simp only [got_none]
  | some s => obtain ⟨v, H1⟩ := s; simp only [got_some]
theorem rOps_app (all : List Oper) : ∀ (a b : List Oper) (k : Nat) (env : Tr Value) (H : AHeap), rOps P call all base (a ++ b) k env H = match rOps P call all base a k env H with
    | some (e, H') => rOps P call all base b (k + a.length) e H'
    | none => none
  | [], b, k, env, H => by simp only [List.nil_append, rOps, List.length_nil, Nat.add_zero]
  | o :: a, b, k, env, H => by
    simp only [List.cons_append, rOps, List.length_cons]
    have e : k + (a.length + 1) = k + 1 + a.length := by omega
    cases wantedA o all env with
    | true =>
      simp only [cond]
      cases aStep P call (aEval env) o (base + k) H with
      | none => rfl
      | some r => simp only [rOps_app all a b, e]
    | false => simp only [cond, rOps_app all a b, e]
theorem y_app {a b : List Oper} : Got (rOps P call all base (List.append a b) k env H) Q = Got (rOps P call all base a k env H) fun r => Got (rOps P call all base b (k + lenL a) r.1 r.2) Q := by
  rw [List.append_eq, rOps_app]
  unfold lenL
  cases rOps P call all base a k env H with
  | none => simp only [got_none]
  | some r => simp only [got_some]
/-- an operation that is run or not -/
theorem y_guard {j : Nat} {want : Bool} : Got (rOps P call all base (⟨d, op, ty, ps, af, some (j, want)⟩ :: os) k env H) Q = cond (wantedA ⟨d, op, ty, ps, af, some (j, want)⟩ all env) (Got (aStep P call (aEval env) ⟨d, op, ty, ps, af, none⟩ (base + k) H) fun r => Got (rOps P call all base os (k + 1) (putE env d r.1) r.2) Q)
    (Got (rOps P call all base os (k + 1) (putE env d undef) H) Q) := by
  simp only [rOps]
  cases wantedA ⟨d, op, ty, ps, af, some (j, want)⟩ all env with
  | false => rfl
  | true =>
    simp only [cond]
    have e : aStep P call (aEval env) ⟨d, op, ty, ps, af, some (j, want)⟩ (base + k) H = aStep P call (aEval env) ⟨d, op, ty, ps, af, none⟩ (base + k) H := rfl
    rw [e]
    cases h : aStep P call (aEval env) ⟨d, op, ty, ps, af, none⟩ (base + k) H with
    | none => simp only [got_none]
    | some s => obtain ⟨v, H1⟩ := s; simp only [got_some]
end

section
variable {P : Program} {call : CallFn} {all os : List Oper} {bf : List Nat} {base k : Nat} {env : Tr Value} {ob : Tr AObj} {nx : Nat} {lg : List Nat} {Q : Tr Value × AHeap → Prop} {d : Option Tmp} {op : Op} {ty : TypeId} {ps : String} {af : Array Edge} {cs : List (Nat × Class)}
@[congr] theorem rDraw_congr {H H' : AHeap} {env' : Tr Value} {cs' : List (Nat × Class)} (h : env = env') (h2 : H = H') (h3 : cs = cs') : rDraw P call all bf base os k env H cs = rDraw P call all bf base os k env' H' cs' := by rw [h, h2, h3]
theorem yd_nil {H : AHeap} : Got (rDraw P call all bf base [] k env H cs) Q = Q (env, H) := by simp only [rDraw, got_some]
def relogL (lg l : List Nat) : List Nat := l.foldl (fun l i => noteId i l) lg
theorem relogL_nil (lg : List Nat) : relogL lg [] = lg := rfl
/-- no operation ahead that need not be ahead looks at what this one turns -/
def calm (bf : List Nat) (k : Nat) (cs : List (Nat × Class)) (c : Class) : Bool := !(cs.any fun p => !((bf[k]?).getD 0).testBit p.1 && clash p.2 c)
@[congr] theorem calm_congr {cs' : List (Nat × Class)} {c c' : Class} (h : cs = cs') (h2 : c = c') : calm bf k cs c = calm bf k cs' c' := by rw [h, h2]
theorem yd_op : Got (rDraw P call all bf base (⟨d, op, ty, ps, af, none⟩ :: os) k env ⟨ob, nx, lg⟩ cs) Q = Got (aStep P call (aEval env) ⟨d, op, ty, ps, af, none⟩ (base + k) ⟨ob, nx, []⟩) fun r =>
    calm bf k cs (classOf (aEval env) (base + k) ⟨ob, nx, lg⟩ r.2 op) = true ∧ Got (rDraw P call all bf base os (k + 1) (putE env d r.1) ⟨r.2.objs, r.2.next, relogL lg r.2.log⟩ ((k, classOf (aEval env) (base + k) ⟨ob, nx, lg⟩ r.2 op) :: cs)) Q := by
  simp only [rDraw, wantedA, cond]
  cases h : aStep P call (aEval env) ⟨d, op, ty, ps, af, none⟩ (base + k) ⟨ob, nx, []⟩ with
  | none => simp only [got_none]
  | some s =>
    obtain ⟨v, H1⟩ := s
    simp only [got_some, calm]
    cases cs.any fun p => !((bf[k]?).getD 0).testBit p.1 && clash p.2 (classOf (aEval env) (base + k) ⟨ob, nx, lg⟩ H1 op) with
    | true => simp [got_none]
    | false => simp [relogL]
theorem calm_nil (c : Class) : calm bf k [] c = true := rfl
theorem calm_pure (c : Class) (h : ∀ p ∈ cs, clash p.2 c = false) : calm bf k cs c = true := by
  unfold calm
  rw [Bool.not_eq_true', List.any_eq_false]
  intro p hp
  rw [h p hp]; simp
end

/-! ### the frame -/
theorem aEval_tmp (env : Tr Value) (t : Nat) : aEval env (.tmp t) = (env.get t).getD undef := rfl
theorem aEval_const (env : Tr Value) (v : Value) : aEval env (.const v) = v := rfl
theorem aEval_func (env : Tr Value) (f : Nat) : aEval env (.func f) = .func (.func f) #[] #[] := rfl
theorem putE_some (env : Tr Value) (d : Nat) (v : Value) : putE env (some d) v = env.put d (some v) := rfl
theorem putE_none (env : Tr Value) (v : Value) : putE env none v = env := rfl
theorem get_put_same {α : Type} (t : Tr α) (k : Nat) (v : Option α) : (t.put k v).get k = v := by rw [Tr.get_put, if_pos rfl]
theorem get_put_ne {α : Type} (t : Tr α) (k : Nat) (v : Option α) (j : Nat) (h : j ≠ k) : (t.put k v).get j = t.get j := by rw [Tr.get_put, if_neg h]
theorem heap_get (o : Tr AObj) (nx : Nat) (lg : List Nat) (i : Nat) : AHeap.get ⟨o, nx, lg⟩ i = o.get i := rfl
theorem heap_upd (o : Tr AObj) (nx : Nat) (lg : List Nat) (i : Nat) (b : Option AObj) : AHeap.upd ⟨o, nx, lg⟩ i b = ⟨o.put i b, nx, noteId i lg⟩ := rfl
theorem heap_add (o : Tr AObj) (nx : Nat) (lg : List Nat) (i : Nat) (b : AObj) : AHeap.add ⟨o, nx, lg⟩ i b = ⟨o.put i (some b), nx, lg⟩ := rfl
theorem new_row (o : Tr AObj) (nx : Nat) (lg : List Nat) (i : Nat) (cells : List Value) (e z : Nat) : newRowA i cells e z ⟨o, nx, lg⟩ = ⟨o.put i (some (.row cells e z true)), nx, lg⟩ := rfl

/-! ### operations -/
section
variable {P : Program} {call : CallFn} {ρ : Operand → Value} {fid : Nat} {H : AHeap} {R : Value × AHeap → Prop} {d : Option Tmp} {ty : TypeId} {ps : String} {af : Array Edge} {g : Option (Nat × Bool)}
theorem st_move {x : Operand} : Got (aStep P call ρ ⟨d, .move x, ty, ps, af, g⟩ fid H) R = R (ρ x, H) := by simp only [aStep, aSimple, got_some]
theorem st_assign {x : Operand} : Got (aStep P call ρ ⟨d, .assign x, ty, ps, af, g⟩ fid H) R = R (ρ x, H) := by simp only [aStep, aSimple, got_some]
theorem st_pick {c x y : Operand} : Got (aStep P call ρ ⟨d, .pick c x y, ty, ps, af, g⟩ fid H) R = Got (boolOf (ρ c)) fun t => R (cond t (ρ x) (ρ y), H) := by
  simp only [aStep, aSimple, boolOf]
  cases ρ c <;> simp only [got_some, got_none]
def zeroOf (P : Program) (t : TypeId) : Option Value := match P.info? t with
  | some inf => match inf.zero with
    | some z => cond (flat2 z) (some z) none
    | none => none
  | none => none
theorem st_alloc {t : TypeId} : Got (aStep P call ρ ⟨d, .alloc t, ty, ps, af, g⟩ fid H) R = Got (zeroOf P t) fun z => R (.pointer (some ⟨fid, 0, none⟩), newRowA fid z.cells.toList t 0 H) := by
  simp only [aStep, aSimple, zeroOf]
  cases P.info? t with
  | none => simp only [got_none]
  | some inf => cases h : inf.zero with
    | none => simp only [h, got_none]
    | some z => simp only [h]; cases flat2 z <;> simp only [cond, got_none, got_some]
theorem st_box {t : TypeId} {x : Operand} : Got (aStep P call ρ ⟨d, .box t x, ty, ps, af, g⟩ fid H) R = R (.pointer (some ⟨fid, 0, none⟩), newRowA fid (ρ x).cells.toList t 0 H) := by simp only [aStep, aSimple, got_some]
theorem st_build {t : TypeId} {parts : Array (Nat × Operand)} : Got (aStep P call ρ ⟨d, .build t parts, ty, ps, af, g⟩ fid H) R = Got (aBuild P ρ t parts) fun v => R (v, H) := by simp only [aStep, aSimple, got_map]
theorem st_buildSlice {t n : Nat} {parts : Array (Nat × Operand)} : Got (aStep P call ρ ⟨d, .buildSlice t n parts, ty, ps, af, g⟩ fid H) R = Got (aBuildSlice P ρ t n parts fid H) R := by simp only [aStep, aSimple]
theorem st_load {t : TypeId} {x : Operand} : Got (aStep P call ρ ⟨d, .load t x, ty, ps, af, g⟩ fid H) R = Got (aLoad P t (ρ x) H) fun v => R (v, H) := by simp only [aStep, aSimple, got_map]
theorem st_store {t : TypeId} {x y : Operand} : Got (aStep P call ρ ⟨d, .store t x y, ty, ps, af, g⟩ fid H) R = Got (aStore P t (ρ x) (ρ y) H) fun h => R (undef, h) := by simp only [aStep, aSimple, got_map]
def someRef : Value → Option Value
  | .pointer (some a) => some (.pointer (some a))
  | .func (.func f) a c => some (.func (.func f) a c)
  | _ => none
theorem st_nilCheck {x : Operand} : Got (aStep P call ρ ⟨d, .nilCheck x, ty, ps, af, g⟩ fid H) R = Got (someRef (ρ x)) fun v => R (v, H) := by
  simp only [aStep, aSimple]
  cases h : ρ x with
  | pointer a => cases a <;> simp only [someRef, got_some, got_none]
  | func f a c => cases f <;> simp only [someRef, got_some, got_none]
  | _ => simp only [someRef, got_none]
def partAt (P : Program) (t : TypeId) (f : Nat) (v : Value) : Option Value := match v, P.underlying t with
  | .agg cs, some (.struct fs) => match fs[f]? with
    | some fd => aPart P fd.type cs fd.offset
    | none => none
  | _, _ => none
theorem st_field {t : TypeId} {x : Operand} {f : Nat} : Got (aStep P call ρ ⟨d, .field t x f, ty, ps, af, g⟩ fid H) R = Got (partAt P t f (ρ x)) fun v => R (v, H) := by
  simp only [aStep, aSimple, partAt]
  split
  · split
    · simp only [*, got_map]
    · simp only [*, got_none]
  · split
    · exfalso; simp_all
    · simp only [got_none]
def tupleAt (k : Nat) : Value → Option Value
  | .tuple vs => vs[k]?
  | _ => none
theorem st_extract {x : Operand} {k : Nat} : Got (aStep P call ρ ⟨d, .extract x k, ty, ps, af, g⟩ fid H) R = Got (tupleAt k (ρ x)) fun v => R (v, H) := by
  simp only [aStep, aSimple, tupleAt]
  cases ρ x <;> simp only [got_none, got_map]
theorem st_makeFunc {fn : Fn} {a c : Array Operand} : Got (aStep P call ρ ⟨d, .makeFunc fn a c, ty, ps, af, g⟩ fid H) R = R (.func fn (a.map ρ) (c.map ρ), H) := by simp only [aStep, aSimple, got_some]
theorem st_makeMap {t : TypeId} : Got (aStep P call ρ ⟨d, .makeMap t none, ty, ps, af, g⟩ fid H) R = R (.map (some fid), H.add fid (.map [] 0)) := by simp only [aStep, aSimple, got_some]
theorem st_makeSlice {t : TypeId} {l c : Operand} : Got (aStep P call ρ ⟨d, .makeSlice t l c, ty, ps, af, g⟩ fid H) R = Got (aMakeSlice P t (ρ l) (ρ c) fid H) R := by simp only [aStep, aSimple]
/-- a field's place and that it has one -/
def fieldOff (P : Program) (t : TypeId) (f : Nat) : Option Nat := match P.underlying t with
  | some (.struct fs) => match fs[f]? with
    | some fd => match P.info? fd.type with
      | some inf => cond (Nat.beq inf.size 0) none (some fd.offset)
      | none => none
    | none => none
  | _ => none
def addOff : Value → Nat → Option Value
  | .pointer (some ⟨i, p, none⟩), n => some (.pointer (some ⟨i, p + n, none⟩))
  | _, _ => none
theorem st_fieldAddr {t : TypeId} {x : Operand} {f : Nat} : Got (aStep P call ρ ⟨d, .fieldAddr t x f, ty, ps, af, g⟩ fid H) R = Got (fieldOff P t f) fun n => Got (addOff (ρ x) n) fun v => R (v, H) := by
  simp only [aStep, aSimple, fieldOff]
  split
  · rename_i i p fs hx hu
    simp only [hu]
    cases fs[f]? with
    | none => simp only [got_none]
    | some fd =>
      simp only
      cases P.info? fd.type with
      | none => simp only [got_none]
      | some inf =>
        simp only
        cases Nat.beq inf.size 0 with
        | true => simp only [cond, got_none]
        | false => simp only [cond, got_some, hx, addOff]
  · rename_i hno
    simp only [got_none]
    refine (eq_false ?_).symm
    rintro ⟨n, hn, v, hv, _⟩
    unfold addOff at hv
    split at hn
    · split at hv
      · exact hno _ _ _ ‹_› ‹_›
      · cases hv
    · cases hn
end
end Go.Proofs.Ytmflapajjghpmaa
