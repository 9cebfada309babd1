/- Running the abstract machine on values and memories that are not known whole: laws for the simplifier. No program in sight. -/
import Derived.Test.YtdfadipfhcikdaaGreatDoorAmB
import Derived.Lib.Strings
import Derived.Lib.SmallJoins
set_option linter.unusedSimpArgs false
set_option linter.unusedVariables false
namespace Go.Proofs.YtdfadipfhcikdaaGreatDoor
open Go.RowKit

/-- there is an answer, and it is so -/
def Got {α : Type} (r : Option α) (Q : α → Prop) : Prop := ∃ a, r = some a ∧ Q a
theorem qL {α : Type} (a : α) (Q : α → Prop) : Got (some a) Q = Q a := by
  apply propext; constructor
  · rintro ⟨b, hb, hq⟩; cases hb; exact hq
  · exact fun h => ⟨a, rfl, h⟩
theorem qM {α : Type} (Q : α → Prop) : Got none Q = False := by
  apply propext; constructor
  · rintro ⟨b, hb, _⟩; cases hb
  · exact False.elim
theorem qN {α γ : Type} (r : Option α) (f : α → γ) (Q : γ → Prop) : Got (r.map f) Q = Got r fun a => Q (f a) := by
  cases r with
  | none => simp only [Option.map_none, qM]
  | some a => simp only [Option.map_some, qL]
theorem qO {α γ : Type} (r : Option α) (f : α → Option γ) (Q : γ → Prop) : Got (r.bind f) Q = Got r fun a => Got (f a) Q := by
  cases r with
  | none => simp only [Option.bind_none, qM]
  | some a => simp only [Option.bind_some, qL]
theorem Got.mono {α : Type} {r : Option α} {Q R : α → Prop} (h : Got r Q) (k : ∀ a, Q a → R a) : Got r R := by
  obtain ⟨a, e, q⟩ := h; exact ⟨a, e, k a q⟩
@[congr] theorem got_congr {α : Type} {r r' : Option α} {Q : α → Prop} (h : r = r') : Got r Q = Got r' Q := by rw [h]

/-- of a choice that is settled one way alone is looked at -/
@[congr] theorem cond_congr' {α : Sort _} {c c' : Bool} {a b : α} (h : c = c') : cond c a b = cond c' a b := by rw [h]
abbrev St := Way × Tr Value × AHeap
section
variable {P : Program} {call : CallFn} {fuel : Nat} {env : Tr Value} {H : AHeap} {Q : St → Prop}
@[congr] theorem rCode_congr {c : Code} {env' : Tr Value} {H' : AHeap} (h : env = env') (k : H = H') : rCode P call fuel c env H = rCode P call fuel c env' H' := by rw [h, k]
/-- what goes on behind a piece of code -/
def onTo (Q : St → Prop) (k : Tr Value → AHeap → Prop) : St → Prop
  | (.on, e, H) => k e H
  | (.out i, e, H) => Q (.out i, e, H)
  | (.back, e, H) => Q (.back, e, H)
theorem zp (k : Tr Value → AHeap → Prop) (e : Tr Value) (h : AHeap) : onTo Q k (.on, e, h) = k e h := rfl
theorem zq (k : Tr Value → AHeap → Prop) (i : Nat) (e : Tr Value) (h : AHeap) : onTo Q k (.out i, e, h) = Q (.out i, e, h) := rfl
theorem zr (k : Tr Value → AHeap → Prop) (e : Tr Value) (h : AHeap) : onTo Q k (.back, e, h) = Q (.back, e, h) := rfl
theorem za {a b : Code} : Got (rCode P call fuel (.seq a b) env H) Q = Got (rCode P call fuel a env H) (onTo Q fun e h => Got (rCode P call fuel b e h) Q) := by
  simp only [rCode]
  cases h : rCode P call fuel a env H with
  | none => simp only [qM]
  | some s =>
    obtain ⟨w, e, H1⟩ := s
    cases w <;> simp only [qL, onTo]
def qP : Value → Option Bool
  | .bool t => some t
  | _ => none
theorem zd {c : Operand} {a b : Code} : Got (rCode P call fuel (.cond c a b) env H) Q = Got (qP (aEval env c)) fun t => cond t (Got (rCode P call fuel a env H) Q) (Got (rCode P call fuel b env H) Q) := by
  simp only [rCode]
  unfold qP
  cases h : aEval env c with
  | bool t => simp only [qL]; cases t <;> rfl
  | _ => simp only [qM]
theorem zg : Got (rCode P call fuel .skip env H) Q = Q (.on, env, H) := by simp only [rCode, qL]
theorem zh : Got (rCode P call fuel .ret env H) Q = Q (.back, env, H) := by simp only [rCode, qL]
theorem zj {i : Nat} : Got (rCode P call fuel (.exit i) env H) Q = Q (.out i, env, H) := by simp only [rCode, qL]
theorem zl {i : Nat} : Got (rCode P call fuel (.label i) env H) Q = Q (.on, env, H) := by simp only [rCode, qL]
def outOf (id : Nat) (Q : St → Prop) : St → Prop
  | (.out i, e, H) => cond (Nat.beq i id) (Q (.on, e, H)) (Q (.out i, e, H))
  | (.on, e, H) => Q (.on, e, H)
  | (.back, e, H) => Q (.back, e, H)
theorem zu (id : Nat) (e : Tr Value) (h : AHeap) : outOf id Q (.on, e, h) = Q (.on, e, h) := rfl
theorem zw (id : Nat) (e : Tr Value) (h : AHeap) : outOf id Q (.back, e, h) = Q (.back, e, h) := rfl
theorem zx (id i : Nat) (e : Tr Value) (h : AHeap) : outOf id Q (.out i, e, h) = cond (Nat.beq i id) (Q (.on, e, h)) (Q (.out i, e, h)) := rfl
theorem zm {id : Nat} {c : Code} : Got (rCode P call fuel (.block id c) env H) Q = Got (rCode P call fuel c env H) (outOf id Q) := by
  simp only [rCode]
  cases h : rCode P call fuel c env H with
  | none => simp only [qM]
  | some s =>
    obtain ⟨w, e, H1⟩ := s
    cases w with
    | out i => simp only [qL, outOf]; cases Nat.beq i id <;> simp only [cond, qL]
    | on => simp only [qL, outOf]
    | back => simp only [qL, outOf]
def inScope (Q : St → Prop) : St → Prop
  | (.out _, _, _) => False
  | (.on, e, H) => Q (.on, e, H)
  | (.back, e, H) => Q (.back, e, H)
theorem zy (e : Tr Value) (h : AHeap) : inScope Q (.on, e, h) = Q (.on, e, h) := rfl
theorem zA (e : Tr Value) (h : AHeap) : inScope Q (.back, e, h) = Q (.back, e, h) := rfl
theorem zn {c : Code} : Got (rCode P call fuel (.scope c) env H) Q = Got (rCode P call fuel c env H) (inScope Q) := by
  simp only [rCode]
  cases h : rCode P call fuel c env H with
  | none => simp only [qM]
  | some s =>
    obtain ⟨w, e, H1⟩ := s
    cases w <;> simp only [qL, qM, inScope]
/-- a loop, by an invariant over a number that falls -/
theorem y_loop {c : Code} (I : Nat → Tr Value → AHeap → Prop)
    (step : ∀ n env H, I n env H → Got (rCode P call fuel c env H) (onTo Q fun e h => ∃ m, m < n ∧ I m e h)) :
    ∀ (n f : Nat) env H, I n env H → n < f → Got (loopN (rCode P call fuel c) Way.isOn f env H) Q := by
  intro n
  induction n using Nat.strongRecOn with
  | _ n ih =>
    intro f env H hI hf
    cases f with
    | zero => omega
    | succ f =>
      obtain ⟨⟨w, e, h⟩, hr, hq⟩ := step n env H hI
      simp only [loopN, hr]
      cases w with
      | on =>
        obtain ⟨m, hm, hi⟩ := hq
        simp only [Way.isOn, cond]
        exact ih m hm f e h hi (by omega)
      | out i => simp only [Way.isOn, cond, qL]; exact hq
      | back => simp only [Way.isOn, cond, qL]; exact hq
theorem y_loop_eq {c : Code} : Got (rCode P call fuel (.loop c) env H) Q = Got (loopN (rCode P call fuel c) Way.isOn fuel env H) Q := rfl
end

/-- how many operations; which temporary one writes: the simplifier does not look into them -/
def lenL (l : List Oper) : Nat := l.length
@[congr] theorem lenL_congr (l : List Oper) : lenL l = lenL l := rfl
theorem JU : lenL [] = 0 := rfl
theorem JV (a : Oper) (l : List Oper) : lenL (a :: l) = lenL l + 1 := rfl
theorem JW (a b : List Oper) : lenL (List.append a b) = lenL a + lenL b := List.length_append
def dstAt (all : List Oper) (j : Nat) : Option Tmp := (all[j]?).bind (·.dst)
@[congr] theorem dstAt_congr (all : List Oper) {j j' : Nat} (h : j = j') : dstAt all j = dstAt all j' := by rw [h]
theorem JX (d : Option Tmp) (op : Op) (ty : TypeId) (ps : String) (af : Array Edge) (g : Option (Nat × Bool)) (l : List Oper) : dstAt (⟨d, op, ty, ps, af, g⟩ :: l) 0 = d := rfl
theorem JY (o : Oper) (l : List Oper) (j : Nat) : dstAt (o :: l) (j + 1) = dstAt l j := rfl
theorem JZ (a b : List Oper) (j : Nat) : dstAt (List.append a b) j = if j < lenL a then dstAt a j else dstAt b (j - lenL a) := by
  unfold dstAt lenL
  rw [List.append_eq]
  split
  · rename_i h; rw [List.getElem?_append_left h]
  · rename_i h; rw [List.getElem?_append_right (by omega)]
section
variable {P : Program} {call : CallFn} {fuel id : Nat} {ops : Array Oper} {env : Tr Value} {o : Tr AObj} {nx : Nat} {lg : List Nat} {Q : St → Prop}
theorem zb : Got (rCode P call fuel (.region id ops false) env ⟨o, nx, lg⟩) Q = Got (rOps P call ops.toList nx ops.toList 0 env ⟨o, nx + lenL ops.toList, lg⟩) fun r => Q (.on, r.1, r.2) := by
  simp only [rCode, cond, qN, lenL]
theorem zF : Got (rCode P call fuel (.region id ops true) env ⟨o, nx, lg⟩) Q = Got (rDraw P call ops.toList (Region.before ops).toList nx ops.toList 0 env ⟨o, nx + lenL ops.toList, lg⟩ []) fun r => Q (.on, r.1, r.2) := by
  simp only [rCode, cond, qN, lenL]
end

section
variable {P : Program} {call : CallFn} {all os : List Oper} {base k : Nat} {env : Tr Value} {H : AHeap} {Q : Tr Value × AHeap → Prop} {d : Option Tmp} {op : Op} {ty : TypeId} {ps : String} {af : Array Edge} {g : Option (Nat × Bool)}
@[congr] theorem rOps_congr {env' : Tr Value} {H' : AHeap} (h : env = env') (h2 : H = H') : rOps P call all base os k env H = rOps P call all base os k env' H' := by rw [h, h2]
theorem zB : Got (rOps P call all base [] k env H) Q = Q (env, H) := by simp only [rOps, qL]
theorem zC : Got (rOps P call all base (⟨d, op, ty, ps, af, none⟩ :: os) k env H) Q = Got (aStep P call (aEval env) ⟨d, op, ty, ps, af, none⟩ (base + k) H) fun r => Got (rOps P call all base os (k + 1) (putE env d r.1) r.2) Q := by
  simp only [rOps, wantedA, cond]
  cases h : aStep P call (aEval env) ⟨d, op, ty, ps, af, none⟩ (base + k) H with
  | none => simp only [qM]
  | some s => obtain ⟨v, H1⟩ := s; simp only [qL]
theorem rOps_app (all : List Oper) : ∀ (a b : List Oper) (k : Nat) (env : Tr Value) (H : AHeap), rOps P call all base (a ++ b) k env H = match rOps P call all base a k env H with
    | some (e, H') => rOps P call all base b (k + a.length) e H'
    | none => none
  | [], b, k, env, H => by simp only [List.nil_append, rOps, List.length_nil, Nat.add_zero]
  | o :: a, b, k, env, H => by
    simp only [List.cons_append, rOps, List.length_cons]
    have e : k + (a.length + 1) = k + 1 + a.length := by omega
    cases wantedA o all env with
    | true =>
      simp only [cond]
      cases aStep P call (aEval env) o (base + k) H with
      | none => rfl
      | some r => simp only [rOps_app all a b, e]
    | false => simp only [cond, rOps_app all a b, e]
theorem JT {a b : List Oper} : Got (rOps P call all base (List.append a b) k env H) Q = Got (rOps P call all base a k env H) fun r => Got (rOps P call all base b (k + lenL a) r.1 r.2) Q := by
  rw [List.append_eq, rOps_app]
  unfold lenL
  cases rOps P call all base a k env H with
  | none => simp only [qM]
  | some r => simp only [qL]
/-- an operation that is run or not -/
theorem zD {j : Nat} {want : Bool} : Got (rOps P call all base (⟨d, op, ty, ps, af, some (j, want)⟩ :: os) k env H) Q = cond (wantedA ⟨d, op, ty, ps, af, some (j, want)⟩ all env) (Got (aStep P call (aEval env) ⟨d, op, ty, ps, af, none⟩ (base + k) H) fun r => Got (rOps P call all base os (k + 1) (putE env d r.1) r.2) Q)
    (Got (rOps P call all base os (k + 1) (putE env d undef) H) Q) := by
  simp only [rOps]
  cases wantedA ⟨d, op, ty, ps, af, some (j, want)⟩ all env with
  | false => rfl
  | true =>
    simp only [cond]
    have e : aStep P call (aEval env) ⟨d, op, ty, ps, af, some (j, want)⟩ (base + k) H = aStep P call (aEval env) ⟨d, op, ty, ps, af, none⟩ (base + k) H := rfl
    rw [e]
    cases h : aStep P call (aEval env) ⟨d, op, ty, ps, af, none⟩ (base + k) H with
    | none => simp only [qM]
    | some s => obtain ⟨v, H1⟩ := s; simp only [qL]
end

section
variable {P : Program} {call : CallFn} {all os : List Oper} {bf : List Nat} {base k : Nat} {env : Tr Value} {ob : Tr AObj} {nx : Nat} {lg : List Nat} {Q : Tr Value × AHeap → Prop} {d : Option Tmp} {op : Op} {ty : TypeId} {ps : String} {af : Array Edge} {cs : List (Nat × Class)}
@[congr] theorem rDraw_congr {H H' : AHeap} {env' : Tr Value} {cs' : List (Nat × Class)} (h : env = env') (h2 : H = H') (h3 : cs = cs') : rDraw P call all bf base os k env H cs = rDraw P call all bf base os k env' H' cs' := by rw [h, h2, h3]
theorem zG {H : AHeap} : Got (rDraw P call all bf base [] k env H cs) Q = Q (env, H) := by simp only [rDraw, qL]
def relogL (lg l : List Nat) : List Nat := l.foldl (fun l i => noteId i l) lg
theorem zI (lg : List Nat) : relogL lg [] = lg := rfl
/-- no operation ahead that need not be ahead looks at what this one turns -/
def calm (bf : List Nat) (k : Nat) (cs : List (Nat × Class)) (c : Class) : Bool := !(cs.any fun p => !((bf[k]?).getD 0).testBit p.1 && clash p.2 c)
@[congr] theorem calm_congr {cs' : List (Nat × Class)} {c c' : Class} (h : cs = cs') (h2 : c = c') : calm bf k cs c = calm bf k cs' c' := by rw [h, h2]
theorem zH : Got (rDraw P call all bf base (⟨d, op, ty, ps, af, none⟩ :: os) k env ⟨ob, nx, lg⟩ cs) Q = Got (aStep P call (aEval env) ⟨d, op, ty, ps, af, none⟩ (base + k) ⟨ob, nx, []⟩) fun r =>
    calm bf k cs (zY (aEval env) (base + k) ⟨ob, nx, lg⟩ r.2 op) = true ∧ Got (rDraw P call all bf base os (k + 1) (putE env d r.1) ⟨r.2.objs, r.2.next, relogL lg r.2.log⟩ ((k, zY (aEval env) (base + k) ⟨ob, nx, lg⟩ r.2 op) :: cs)) Q := by
  simp only [rDraw, wantedA, cond]
  cases h : aStep P call (aEval env) ⟨d, op, ty, ps, af, none⟩ (base + k) ⟨ob, nx, []⟩ with
  | none => simp only [qM]
  | some s =>
    obtain ⟨v, H1⟩ := s
    simp only [qL, calm]
    cases cs.any fun p => !((bf[k]?).getD 0).testBit p.1 && clash p.2 (zY (aEval env) (base + k) ⟨ob, nx, lg⟩ H1 op) with
    | true => simp [qM]
    | false => simp [relogL]
theorem zJ (c : Class) : calm bf k [] c = true := rfl
theorem calm_pure (c : Class) (h : ∀ p ∈ cs, clash p.2 c = false) : calm bf k cs c = true := by
  unfold calm
  rw [Bool.not_eq_true', List.any_eq_false]
  intro p hp
  rw [h p hp]; simp
end

/-! ### the frame -/
theorem qz (env : Tr Value) (t : Nat) : aEval env (.tmp t) = (env.get t).getD undef := rfl
theorem qA (env : Tr Value) (v : Value) : aEval env (.const v) = v := rfl
theorem qB (env : Tr Value) (f : Nat) : aEval env (.func f) = .func (.func f) #[] #[] := rfl
theorem qC (env : Tr Value) (d : Nat) (v : Value) : putE env (some d) v = env.put d (some v) := rfl
theorem qD (env : Tr Value) (v : Value) : putE env none v = env := rfl
theorem qE {α : Type} (t : Tr α) (k : Nat) (v : Option α) : (t.put k v).get k = v := by rw [Tr.get_put, if_pos rfl]
theorem qF {α : Type} (t : Tr α) (k : Nat) (v : Option α) (j : Nat) (h : j ≠ k) : (t.put k v).get j = t.get j := by rw [Tr.get_put, if_neg h]
theorem qH (o : Tr AObj) (nx : Nat) (lg : List Nat) (i : Nat) : AHeap.get ⟨o, nx, lg⟩ i = o.get i := rfl
theorem qI (o : Tr AObj) (nx : Nat) (lg : List Nat) (i : Nat) (b : Option AObj) : AHeap.upd ⟨o, nx, lg⟩ i b = ⟨o.put i b, nx, noteId i lg⟩ := rfl
theorem qJ (o : Tr AObj) (nx : Nat) (lg : List Nat) (i : Nat) (b : AObj) : AHeap.add ⟨o, nx, lg⟩ i b = ⟨o.put i (some b), nx, lg⟩ := rfl
theorem qK (o : Tr AObj) (nx : Nat) (lg : List Nat) (i : Nat) (cells : List Value) (e z : Nat) : newRowA i cells e z ⟨o, nx, lg⟩ = ⟨o.put i (some (.row cells e z true)), nx, lg⟩ := rfl

/-! ### operations -/
section
variable {P : Program} {call : CallFn} {ρ : Operand → Value} {fid : Nat} {H : AHeap} {R : Value × AHeap → Prop} {d : Option Tmp} {ty : TypeId} {ps : String} {af : Array Edge} {g : Option (Nat × Bool)}
theorem zZ {x : Operand} : Got (aStep P call ρ ⟨d, .move x, ty, ps, af, g⟩ fid H) R = R (ρ x, H) := by simp only [aStep, aSimple, qL]
theorem qb {x : Operand} : Got (aStep P call ρ ⟨d, .assign x, ty, ps, af, g⟩ fid H) R = R (ρ x, H) := by simp only [aStep, aSimple, qL]
theorem qc {c x y : Operand} : Got (aStep P call ρ ⟨d, .pick c x y, ty, ps, af, g⟩ fid H) R = Got (qP (ρ c)) fun t => R (cond t (ρ x) (ρ y), H) := by
  simp only [aStep, aSimple, qP]
  cases ρ c <;> simp only [qL, qM]
def zeroOf (P : Program) (t : TypeId) : Option Value := match P.info? t with
  | some inf => match inf.zero with
    | some z => cond (flat2 z) (some z) none
    | none => none
  | none => none
theorem qd {t : TypeId} : Got (aStep P call ρ ⟨d, .alloc t, ty, ps, af, g⟩ fid H) R = Got (zeroOf P t) fun z => R (.pointer (some ⟨fid, 0, none⟩), newRowA fid z.cells.toList t 0 H) := by
  simp only [aStep, aSimple, zeroOf]
  cases P.info? t with
  | none => simp only [qM]
  | some inf => cases h : inf.zero with
    | none => simp only [h, qM]
    | some z => simp only [h]; cases flat2 z <;> simp only [cond, qM, qL]
theorem qe {t : TypeId} {x : Operand} : Got (aStep P call ρ ⟨d, .box t x, ty, ps, af, g⟩ fid H) R = R (.pointer (some ⟨fid, 0, none⟩), newRowA fid (ρ x).cells.toList t 0 H) := by simp only [aStep, aSimple, qL]
theorem st_build {t : TypeId} {parts : Array (Nat × Operand)} : Got (aStep P call ρ ⟨d, .build t parts, ty, ps, af, g⟩ fid H) R = Got (aBuild P ρ t parts) fun v => R (v, H) := by simp only [aStep, aSimple, qN]
theorem st_buildSlice {t n : Nat} {parts : Array (Nat × Operand)} : Got (aStep P call ρ ⟨d, .buildSlice t n parts, ty, ps, af, g⟩ fid H) R = Got (aBuildSlice P ρ t n parts fid H) R := by simp only [aStep, aSimple]
theorem qg {t : TypeId} {x : Operand} : Got (aStep P call ρ ⟨d, .load t x, ty, ps, af, g⟩ fid H) R = Got (aLoad P t (ρ x) H) fun v => R (v, H) := by simp only [aStep, aSimple, qN]
theorem qh {t : TypeId} {x y : Operand} : Got (aStep P call ρ ⟨d, .store t x y, ty, ps, af, g⟩ fid H) R = Got (aStore P t (ρ x) (ρ y) H) fun h => R (undef, h) := by simp only [aStep, aSimple, qN]
def qQ : Value → Option Value
  | .pointer (some a) => some (.pointer (some a))
  | .func (.func f) a c => some (.func (.func f) a c)
  | _ => none
theorem qi {x : Operand} : Got (aStep P call ρ ⟨d, .nilCheck x, ty, ps, af, g⟩ fid H) R = Got (qQ (ρ x)) fun v => R (v, H) := by
  simp only [aStep, aSimple]
  cases h : ρ x with
  | pointer a => cases a <;> simp only [qQ, qL, qM]
  | func f a c => cases f <;> simp only [qQ, qL, qM]
  | _ => simp only [qQ, qM]
def partAt (P : Program) (t : TypeId) (f : Nat) (v : Value) : Option Value := match v, P.underlying t with
  | .agg cs, some (.struct fs) => match fs[f]? with
    | some fd => aPart P fd.type cs fd.offset
    | none => none
  | _, _ => none
theorem qj {t : TypeId} {x : Operand} {f : Nat} : Got (aStep P call ρ ⟨d, .field t x f, ty, ps, af, g⟩ fid H) R = Got (partAt P t f (ρ x)) fun v => R (v, H) := by
  simp only [aStep, aSimple, partAt]
  split
  · split
    · simp only [*, qN]
    · simp only [*, qM]
  · split
    · exfalso; simp_all
    · simp only [qM]
def qS (k : Nat) : Value → Option Value
  | .tuple vs => vs[k]?
  | _ => none
theorem qk {x : Operand} {k : Nat} : Got (aStep P call ρ ⟨d, .extract x k, ty, ps, af, g⟩ fid H) R = Got (qS k (ρ x)) fun v => R (v, H) := by
  simp only [aStep, aSimple, qS]
  cases ρ x <;> simp only [qM, qN]
theorem qo {fn : Fn} {a c : Array Operand} : Got (aStep P call ρ ⟨d, .makeFunc fn a c, ty, ps, af, g⟩ fid H) R = R (.func fn (a.map ρ) (c.map ρ), H) := by simp only [aStep, aSimple, qL]
theorem qp {t : TypeId} : Got (aStep P call ρ ⟨d, .makeMap t none, ty, ps, af, g⟩ fid H) R = R (.map (some fid), H.add fid (.map [] 0)) := by simp only [aStep, aSimple, qL]
theorem st_makeSlice {t : TypeId} {l c : Operand} : Got (aStep P call ρ ⟨d, .makeSlice t l c, ty, ps, af, g⟩ fid H) R = Got (aMakeSlice P t (ρ l) (ρ c) fid H) R := by simp only [aStep, aSimple]
/-- a field's place and that it has one -/
def fieldOff (P : Program) (t : TypeId) (f : Nat) : Option Nat := match P.underlying t with
  | some (.struct fs) => match fs[f]? with
    | some fd => match P.info? fd.type with
      | some inf => cond (Nat.beq inf.size 0) none (some fd.offset)
      | none => none
    | none => none
  | _ => none
def qR : Value → Nat → Option Value
  | .pointer (some ⟨i, p, none⟩), n => some (.pointer (some ⟨i, p + n, none⟩))
  | _, _ => none
theorem qr {t : TypeId} {x : Operand} {f : Nat} : Got (aStep P call ρ ⟨d, .fieldAddr t x f, ty, ps, af, g⟩ fid H) R = Got (fieldOff P t f) fun n => Got (qR (ρ x) n) fun v => R (v, H) := by
  simp only [aStep, aSimple, fieldOff]
  split
  · rename_i i p fs hx hu
    simp only [hu]
    cases fs[f]? with
    | none => simp only [qM]
    | some fd =>
      simp only
      cases P.info? fd.type with
      | none => simp only [qM]
      | some inf =>
        simp only
        cases Nat.beq inf.size 0 with
        | true => simp only [cond, qM]
        | false => simp only [cond, qL, hx, qR]
  · rename_i hno
    simp only [qM]
    refine (eq_false ?_).symm
    rintro ⟨n, hn, v, hv, _⟩
    unfold qR at hv
    split at hn
    · split at hv
      · exact hno _ _ _ ‹_› ‹_›
      · cases hv
    · cases hn
end
end Go.Proofs.YtdfadipfhcikdaaGreatDoor

namespace Go.Proofs.YtdfadipfhcikdaaGreatDoor
open Go.RowKit
section
variable {P : Program} {call : CallFn} {ρ : Operand → Value} {fid : Nat} {H : AHeap} {R : Value × AHeap → Prop} {d : Option Tmp} {ty : TypeId} {ps : String} {af : Array Edge} {g : Option (Nat × Bool)}
/-- the size of what an index leads to, and how many there are, where that is in the type -/
def elemOf (P : Program) (t : TypeId) : Option (Option Nat × Nat) := match P.underlying t with
  | some (.slice el) => (P.info? el).map fun i => (none, i.size)
  | some (.array n el) => (P.info? el).map fun i => (some n, i.size)
  | _ => none
def indexAt (e : Option Nat × Nat) : Value → Value → Option Value
  | .slice (some ⟨i, p, none⟩) n _, .int _ (.ofNat j) => cond e.1.isNone (cond (Nat.blt j n) (some (.pointer (some ⟨i, p + j * e.2, none⟩))) none) none
  | .pointer (some ⟨i, p, none⟩), .int _ (.ofNat j) => match e.1 with
    | some n => cond (Nat.blt j n) (some (.pointer (some ⟨i, p + j * e.2, none⟩))) none
    | none => none
  | _, _ => none
theorem st_indexAddr {t : TypeId} {x ix : Operand} (e : Option Nat × Nat) (he : elemOf P t = some e) : Got (aStep P call ρ ⟨d, .indexAddr t x ix, ty, ps, af, g⟩ fid H) R = Got (indexAt e (ρ x) (ρ ix)) fun v => R (v, H) := by
  unfold elemOf at he
  simp only [aStep, aSimple]
  split
  · rename_i i p n c k j el hx hi hu
    rw [hu] at he
    obtain ⟨inf, h1, rfl⟩ := Option.map_eq_some_iff.1 he
    simp only [h1, hx, hi, indexAt, Option.isNone_none, cond]
    cases Nat.blt j n <;> simp only [qL, qM]
  · rename_i i p k j n el hx hi hu
    rw [hu] at he
    obtain ⟨inf, h1, rfl⟩ := Option.map_eq_some_iff.1 he
    simp only [h1, hx, hi, indexAt]
    cases Nat.blt j n <;> simp only [cond, qL, qM]
  · rename_i hno1 hno2
    simp only [qM]
    refine (eq_false ?_).symm
    rintro ⟨v, hv, _⟩
    unfold indexAt at hv
    split at hv
    · rename_i i p n c k j hx hi
      split at he
      · exact hno1 _ _ _ _ _ _ _ hx hi ‹_›
      · obtain ⟨inf, h1, rfl⟩ := Option.map_eq_some_iff.1 he
        cases hv
      · cases he
    · rename_i i p k j hx hi
      split at he
      · obtain ⟨inf, h1, rfl⟩ := Option.map_eq_some_iff.1 he
        cases hv
      · exact hno2 _ _ _ _ _ _ hx hi ‹_›
      · cases he
    · cases hv
theorem qt {t : TypeId} {x k : Operand} {ok : Bool} : Got (aStep P call ρ ⟨d, .lookup t x k ok, ty, ps, af, g⟩ fid H) R = Got (aLookup P t (ρ x) (ρ k) ok H) fun v => R (v, H) := by simp only [aStep, aSimple, qN]
theorem qx {t : TypeId} {x k y : Operand} : Got (aStep P call ρ ⟨d, .mapUpdate t x k y, ty, ps, af, g⟩ fid H) R = Got (aMapUpdate P t (ρ x) (ρ k) (ρ y) H) fun h => R (undef, h) := by simp only [aStep, aSimple, qN]
theorem qy {t : TypeId} {x k y : Operand} : Got (aStep P call ρ ⟨d, .insert t x k y, ty, ps, af, g⟩ fid H) R = Got (aMapUpdate P t (ρ x) (ρ k) (ρ y) H) fun h => R (undef, h) := by simp only [aStep, aSimple, qN]
theorem st_delete {x k : Operand} {t u : TypeId} : Got (aStep P call ρ ⟨d, .call { callee := .builtin .delete, args := #[x, k], argTypes := #[t, u] }, ty, ps, af, g⟩ fid H) R = Got (aDelete P t (ρ x) (ρ k) H) fun h => R (undef, h) := by simp only [aStep, aSimple, qN]
theorem st_append {x y : Operand} {t u : TypeId} (h : elemZeroOk P t = true) : Got (aStep P call ρ ⟨d, .call { callee := .builtin .append, args := #[x, y], argTypes := #[t, u] }, ty, ps, af, g⟩ fid H) R = Got (aAppend P t u (ρ x) (ρ y) fid H) R := by simp only [aStep, aSimple, h, cond]
theorem st_clear {x : Operand} {t : TypeId} (tv : TypeDesc) (h : P.underlying t = some tv) : Got (aStep P call ρ ⟨d, .call { callee := .builtin .clear, args := #[x], argTypes := #[t] }, ty, ps, af, g⟩ fid H) R = Got (aClear P t (ρ x) H) fun h => R (undef, h) := by simp only [aStep, aSimple, h, qN]
theorem st_copy {x y : Operand} {t u : TypeId} : Got (aStep P call ρ ⟨d, .call { callee := .builtin .copy, args := #[x, y], argTypes := #[t, u] }, ty, ps, af, g⟩ fid H) R = Got (aCopy P t (ρ x) (ρ y) H) R := by simp only [aStep, aSimple]
/-- len of a row or a map -/
theorem st_len {x : Operand} {t : TypeId} (v : Value) (h : aLen P t (ρ x) H = some v) : Got (aStep P call ρ ⟨d, .call { callee := .builtin .len, args := #[x], argTypes := #[t] }, ty, ps, af, g⟩ fid H) R = R (v, H) := by simp only [aStep, aSimple, h, qL]
/-- a function value's function -/
def codeOf (P : Program) (f : FuncId) : Bool := match P.funcs[f]? with
  | some fn => fn.body.isSome && fn.name != "runtime.NumGoroutine"
  | none => false
def calleeV (P : Program) : Value → Option (FuncId × List Value × List Value)
  | .func (.func g) first captured => cond (codeOf P g) (some (g, first.toList, captured.toList)) none
  | _ => none
theorem calleeV_func (g : FuncId) (a c : Array Value) (h : codeOf P g = true) : calleeV P (.func (.func g) a c) = some (g, a.toList, c.toList) := by simp only [calleeV, h, cond]
theorem qu {f : Operand} {args : Array Operand} {ts : Array TypeId} : Got (aStep P call ρ ⟨d, .call { callee := .value f, args := args, argTypes := ts }, ty, ps, af, g⟩ fid H) R =
    Got (calleeV P (ρ f)) fun q => Got (call q.1 (q.2.1 ++ args.toList.map ρ ++ q.2.2) H) R := by
  simp only [aStep, calleeOf, calleeV, codeOf]
  cases ρ f with
  | func fn a c =>
    cases fn with
    | func g =>
      simp only
      cases P.funcs[g]? with
      | none => simp only [cond, qM]
      | some fn =>
        simp only
        cases (fn.body.isSome && fn.name != "runtime.NumGoroutine") <;> simp only [cond, qM, qL]
    | _ => simp only [qM]
  | _ => simp only [qM]
end

/-! ### operations on values without blocks -/
def val2 (a b : Value) : Operand → Value
  | .const v => v
  | .tmp 0 => a
  | _ => b
def opnd (c : Bool) (n : Nat) (v : Value) : Operand := cond c (.const v) (.tmp n)
def qT : Operand → Bool
  | .const _ => true
  | _ => false
/-- a binary operation of two values; whether an operand is written out tells for one form alone -/
def binV (P : Program) (op : BinOp) (t : TypeId) (cx cy : Bool) (a b : Value) : Option Value :=
  match aPure P (val2 a b) ⟨none, .binOp op t (opnd cx 0 a) (opnd cy 1 b) 0, 0, "", #[], none⟩ with
  | some v => some v
  | none => aNilEq P op t a b
theorem pure_bin (P : Program) (env : Tr Value) (op : BinOp) (t u ty : TypeId) (x y : Operand) (d : Option Tmp) (ps : String) (af : Array Edge) (g : Option (Nat × Bool)) :
    aPure P (aEval env) ⟨d, .binOp op t x y u, ty, ps, af, g⟩ = aPure P (val2 (aEval env x) (aEval env y)) ⟨none, .binOp op t (opnd (qT x) 0 (aEval env x)) (opnd (qT y) 1 (aEval env y)) 0, 0, "", #[], none⟩ := by
  cases x <;> cases y <;> rfl
theorem qs {P : Program} {call : CallFn} {env : Tr Value} {fid : Nat} {H : AHeap} {R : Value × AHeap → Prop} {d : Option Tmp} {ty : TypeId} {ps : String} {af : Array Edge} {g : Option (Nat × Bool)} {op : BinOp} {t u : TypeId} {x y : Operand} :
    Got (aStep P call (aEval env) ⟨d, .binOp op t x y u, ty, ps, af, g⟩ fid H) R = Got (binV P op t (qT x) (qT y) (aEval env x) (aEval env y)) fun v => R (v, H) := by
  simp only [aStep, aSimple, binV]
  rw [← pure_bin P env op t u ty x y d ps af g]
  cases aPure P (aEval env) ⟨d, .binOp op t x y u, ty, ps, af, g⟩ with
  | some v => simp only [qL]
  | none => simp only [qN]
section
variable {P : Program} {t : TypeId} {cx cy : Bool} {k : IntKind} {a b : Int}
theorem jv : binV P .add t cx cy (.int k a) (.int k b) = some (.int k (k.wrap (a + b))) := by cases cx <;> cases cy <;> simp [binV, aPure, opnd, val2, execOp, eqGuard, binOp, Op.intArith, qval, notSelect, flat, flat2, flat1, Op.operands] <;> rfl
theorem jw : binV P .sub t cx cy (.int k a) (.int k b) = some (.int k (k.wrap (a - b))) := by cases cx <;> cases cy <;> simp [binV, aPure, opnd, val2, execOp, eqGuard, binOp, Op.intArith, qval, notSelect, flat, flat2, flat1, Op.operands] <;> rfl
theorem jx : binV P .mul t cx cy (.int k a) (.int k b) = some (.int k (k.wrap (a * b))) := by cases cx <;> cases cy <;> simp [binV, aPure, opnd, val2, execOp, eqGuard, binOp, Op.intArith, qval, notSelect, flat, flat2, flat1, Op.operands] <;> rfl
theorem jy : binV P .lss t cx cy (.int k a) (.int k b) = some (.bool (decide (a < b))) := by cases cx <;> cases cy <;> simp [binV, aPure, opnd, val2, execOp, eqGuard, binOp, Op.intCmp, qval, notSelect, flat, flat2, flat1, Op.operands] <;> rfl
theorem jz : binV P .leq t cx cy (.int k a) (.int k b) = some (.bool (decide (a ≤ b))) := by cases cx <;> cases cy <;> simp [binV, aPure, opnd, val2, execOp, eqGuard, binOp, Op.intCmp, qval, notSelect, flat, flat2, flat1, Op.operands] <;> rfl
theorem jA : binV P .gtr t cx cy (.int k a) (.int k b) = some (.bool (decide (b < a))) := by cases cx <;> cases cy <;> simp [binV, aPure, opnd, val2, execOp, eqGuard, binOp, Op.intCmp, qval, notSelect, flat, flat2, flat1, Op.operands] <;> rfl
theorem jB : binV P .geq t cx cy (.int k a) (.int k b) = some (.bool (decide (b ≤ a))) := by cases cx <;> cases cy <;> simp [binV, aPure, opnd, val2, execOp, eqGuard, binOp, Op.intCmp, qval, notSelect, flat, flat2, flat1, Op.operands] <;> rfl
theorem jC : binV P .eql t cx cy (.int k a) (.int k b) = some (.bool (decide (a = b))) := by cases cx <;> cases cy <;> simp [binV, aPure, opnd, val2, execOp, eqGuard, binOp, Op.intCmp, qval, notSelect, flat, flat2, flat1, Op.operands] <;> rfl
theorem jD : binV P .neq t cx cy (.int k a) (.int k b) = some (.bool (!decide (a = b))) := by cases cx <;> cases cy <;> simp [binV, aPure, opnd, val2, execOp, eqGuard, binOp, Op.intCmp, qval, notSelect, flat, flat2, flat1, Op.operands] <;> rfl
end
end Go.Proofs.YtdfadipfhcikdaaGreatDoor

namespace Go.Proofs.YtdfadipfhcikdaaGreatDoor
open Go.RowKit

/-! ### rows -/
def rowAt (H : AHeap) (i : Nat) : Option (List Value) := match H.get i with
  | some (.row c _ _ _) => some c
  | _ => none
/-- how many cells a value of a type has, if it is put together -/
def aggSize (P : Program) (t : TypeId) : Option (Option Nat) := match P.underlying t with
  | some d => cond (aggT d) ((P.info? t).map fun i => some i.size) (some none)
  | none => none
section
variable {P : Program} {t : TypeId} {n i o : Nat} {H : AHeap}
theorem aLoad_agg (h : aggSize P t = some (some n)) : aLoad P t (.pointer (some ⟨i, o, none⟩)) H = (rowAt H i).bind fun c => (cut c o n).map fun l => .agg l.toArray := by
  unfold aggSize at h
  simp only [aLoad, rowAt]
  split at h
  · rename_i d hd
    cases ha : aggT d with
    | false => rw [ha] at h; cases h
    | true =>
      rw [ha] at h
      simp only [cond] at h
      obtain ⟨inf, h1, h2⟩ := Option.map_eq_some_iff.1 h
      cases h2
      cases H.get i with
      | none => rfl
      | some ob => cases ob <;> simp only [Option.bind_some, Option.bind_none, h1, ha, cond, hd]
  · cases h
theorem aLoad_one (h : aggSize P t = some none) : aLoad P t (.pointer (some ⟨i, o, none⟩)) H = (rowAt H i).bind fun c => c[o]? := by
  unfold aggSize at h
  simp only [aLoad, rowAt]
  split at h
  · rename_i d hd
    cases ha : aggT d with
    | true =>
      rw [ha] at h
      simp only [cond] at h
      obtain ⟨inf, h1, h2⟩ := Option.map_eq_some_iff.1 h
      cases h2
    | false =>
      cases H.get i with
      | none => rfl
      | some ob => cases ob <;> simp only [Option.bind_some, Option.bind_none, ha, cond, hd]
  · cases h
end
theorem jZ (a b : Value) : cut [a, b] 0 2 = some [a, b] := rfl
theorem cut_in {cells l : List Value} {o n : Nat} (h : l.length = n) (pre post : List Value) (hp : pre.length = o) (e : cells = pre ++ (l ++ post)) : cut cells o n = some l := by
  subst hp; subst h; subst e
  simp [cut]

def sizeT (P : Program) (t : TypeId) : Option Nat := (P.info? t).map fun i => i.size
def jG (H : AHeap) (i : Nat) : Option (List Value × TypeId × Nat) := match H.get i with
  | some (.row c e z true) => some (c, e, z)
  | _ => none
theorem aStore_at {P : Program} {t n i o : Nat} {H : AHeap} {v : Value} (h : sizeT P t = some n) : aStore P t (.pointer (some ⟨i, o, none⟩)) v H = (jG H i).bind fun r => if v.cells.size = n then aStoreCells i r.2.1 r.2.2 H r.1 o v.cells.toList else none := by
  obtain ⟨inf, h1, h2⟩ := Option.map_eq_some_iff.1 h
  simp only [aStore, jG, h1]
  cases H.get i with
  | none => rfl
  | some ob =>
    cases ob with
    | row c e z w =>
      cases w with
      | false => rfl
      | true =>
        simp only [Option.bind_some, h2]
        by_cases hs : v.cells.size = n
        · rw [if_pos hs, hs, Nat.beq_refl]; rfl
        · rw [if_neg hs, show Nat.beq v.cells.size n = false from by cases h : Nat.beq v.cells.size n; · rfl
                                                                     · exact absurd (Nat.eq_of_beq_eq_true h) hs]; rfl
    | _ => rfl
theorem jE (i : Nat) (e z : Nat) (H : AHeap) (cells : List Value) (o : Nat) : aStoreCells i e z H cells o [] = some H := rfl
theorem jF (i : Nat) (e z : Nat) (H : AHeap) (cells : List Value) (o : Nat) (v : Value) (vs : List Value) :
    aStoreCells i e z H cells o (v :: vs) = if o < cells.length ∧ oneV v = true then aStoreCells i e z (H.upd i (some (.row (cells.set o v) e z true))) (cells.set o v) (o + 1) vs else none := by
  simp only [aStoreCells]
  by_cases h : o < cells.length
  · cases oneV v with
    | true => rw [if_pos ⟨h, rfl⟩, show Nat.blt o cells.length = true from Nat.blt_eq ▸ h]; rfl
    | false => rw [if_neg (by simp)]; cases Nat.blt o cells.length <;> rfl
  · rw [if_neg (by simp [h]), show Nat.blt o cells.length = false from by cases e : Nat.blt o cells.length; · rfl
                                                                          · rw [Nat.blt_eq] at e; exact absurd e h]; rfl
theorem jH (k : IntKind) (n : Int) : oneV (.int k n) = true := rfl
theorem jI (b : Bool) : oneV (.bool b) = true := rfl
theorem jJ (b : ByteArray) : oneV (.string b) = true := rfl
theorem jK (a : Option Addr) : oneV (.pointer a) = true := rfl
theorem jL (a : Option Nat) : oneV (.map a) = true := rfl
theorem jM (a : Option Addr) (n c : Nat) : oneV (.slice a n c) = true := rfl
theorem jN (k : IntKind) (n : Int) : (Value.int k n).cells = #[.int k n] := rfl
theorem jO (b : Bool) : (Value.bool b).cells = #[.bool b] := rfl
theorem jP (b : ByteArray) : (Value.string b).cells = #[.string b] := rfl
theorem jQ (a : Option Addr) : (Value.pointer a).cells = #[.pointer a] := rfl
theorem jR (a : Option Nat) : (Value.map a).cells = #[.map a] := rfl
theorem jS (a : Option Addr) (n c : Nat) : (Value.slice a n c).cells = #[.slice a n c] := rfl
theorem jT (a : Array Value) : (Value.agg a).cells = a := rfl
theorem jU (n : Nat) (k : IntKind) (a : Int) : lowV n (.int k a) = true := rfl
theorem jV (n : Nat) (b : Bool) : lowV n (.bool b) = true := rfl
theorem jW (n : Nat) (b : ByteArray) : lowV n (.string b) = true := rfl
theorem jX (n : Nat) : lowV n (.tuple #[]) = true := rfl
theorem jY (n : Nat) (j k : IntKind) (a b : Int) : lowV n (.agg #[.int j a, .int k b]) = true := rfl

/-! ### calls -/
/-- what a call tells when its code is through -/
def fnEnd (P : Program) (rs : List ResultVar) (H : AHeap) (Q : Value × AHeap → Prop) : St → Prop
  | (.on, env, H') => Got (aResults P env H' rs) fun vs => Q (leave H (oneOf vs) H')
  | (.back, env, H') => Got (aResults P env H' rs) fun vs => Q (leave H (oneOf vs) H')
  | (.out _, _, _) => False
section
variable {P : Program} {rs : List ResultVar} {H : AHeap} {Q : Value × AHeap → Prop}
theorem qU (e : Tr Value) (h : AHeap) : fnEnd P rs H Q (.on, e, h) = Got (aResults P e h rs) fun vs => Q (leave H (oneOf vs) h) := rfl
theorem qV (e : Tr Value) (h : AHeap) : fnEnd P rs H Q (.back, e, h) = Got (aResults P e h rs) fun vs => Q (leave H (oneOf vs) h) := rfl
theorem qW (i : Nat) (e : Tr Value) (h : AHeap) : fnEnd P rs H Q (.out i, e, h) = False := rfl
theorem qX (env : Tr Value) (h : AHeap) (R : List Value → Prop) : Got (aResults P env h []) R = R [] := by simp only [aResults, qL]
theorem qY (env : Tr Value) (h : AHeap) (t : Nat) (R : List Value → Prop) : Got (aResults P env h (.tmp t :: rs)) R = Got (aResults P env h rs) fun vs => R ((env.get t).getD undef :: vs) := by
  simp only [aResults]
  cases aResults P env h rs <;> simp only [qL, qM]
theorem qZ (env : Tr Value) (h : AHeap) (a t : Nat) (R : List Value → Prop) : Got (aResults P env h (.cell a t :: rs)) R = Got (aLoad P t ((env.get a).getD undef) h) fun v => Got (aResults P env h rs) fun vs => R (v :: vs) := by
  simp only [aResults]
  cases aLoad P t ((env.get a).getD undef) h with
  | none => simp only [qM]
  | some v => cases aResults P env h rs <;> simp only [qL, qM]
@[congr] theorem oCall_congr {gs : List Nat} {O : Helps} {n f : Nat} {args args' : List Value} {H H' : AHeap} (h : args = args') (k : H = H') : oCall P gs O n f args H = oCall P gs O n f args' H' := by rw [h, k]
theorem y_fn {gs : List Nat} {O : Helps} {f : FuncId} {fn : Func} {c : Code} (ho : O f = none) (hf : P.funcs[f]? = some fn) (hc : fn.body = some c) (hk : chkFn P gs f = true) (hr : fn.results.toList = rs) {n : Nat} {args : List Value} (hl : Nat.ble args.length fn.ntmps = true) {o : Tr AObj} {nx : Nat} {lg : List Nat} :
    Got (oCall P gs O (n + 1) f args ⟨o, nx, lg⟩) Q = Got (rCode P (oCall P gs O n) n c (qG args 0 .nil) ⟨o, nx, []⟩) (fnEnd P rs ⟨o, nx, lg⟩ Q) := by
  subst hr
  rw [oCall_eq ho hf hc hk n args hl]
  cases rCode P (oCall P gs O n) n c (qG args 0 .nil) ⟨o, nx, []⟩ with
  | none => simp only [fnOut, qM]
  | some s =>
    obtain ⟨w, e, h⟩ := s
    cases w <;> simp only [fnOut, qL, qM, qN, fnEnd]
end
theorem ja (v : Value) : oneOf [v] = v := rfl
theorem jb (a b : Value) : oneOf [a, b] = .tuple #[a, b] := rfl
theorem jc (a b c : Value) : oneOf [a, b, c] = .tuple #[a, b, c] := rfl
theorem jd : oneOf [] = .tuple #[] := rfl
/-- a call that turns nothing of what was there, and tells no new block, leaves the memory as it was -/
theorem Ja {o o' : Tr AObj} {nx nx' : Nat} {lg l : List Nat} {v : Value} (h1 : l.all (fun i => Nat.ble nx i) = true) (h2 : lowV nx v = true) : leave ⟨o, nx, lg⟩ v ⟨o', nx', l⟩ = (v, ⟨o, nx, lg⟩) := by
  simp only [leave, h1, h2, Bool.and_self, cond]

/-! ### against nil -/
section
variable {P : Program} {t e kt : TypeId} {cx : Bool}
theorem b_neq_ptr (hu : P.underlying t = some (.pointer e)) {a : Addr} : binV P .neq t cx true (.pointer (some a)) (.pointer none) = some (.bool true) := by cases cx <;> simp [binV, aPure, opnd, val2, Op.operands, flat, flat2, flat1, notSelect, aNilEq, aNilEq0, hu, kindFits, isNilConst, isNilV]
theorem b_eql_ptr (hu : P.underlying t = some (.pointer e)) {a : Addr} : binV P .eql t cx true (.pointer (some a)) (.pointer none) = some (.bool false) := by cases cx <;> simp [binV, aPure, opnd, val2, Op.operands, flat, flat2, flat1, notSelect, aNilEq, aNilEq0, hu, kindFits, isNilConst, isNilV]
theorem b_neq_map (hu : P.underlying t = some (.map kt e)) {a : Nat} : binV P .neq t cx true (.map (some a)) (.map none) = some (.bool true) := by cases cx <;> simp [binV, aPure, opnd, val2, Op.operands, flat, flat2, flat1, notSelect, aNilEq, aNilEq0, hu, kindFits, isNilConst, isNilV]
theorem b_eql_map (hu : P.underlying t = some (.map kt e)) {a : Nat} : binV P .eql t cx true (.map (some a)) (.map none) = some (.bool false) := by cases cx <;> simp [binV, aPure, opnd, val2, Op.operands, flat, flat2, flat1, notSelect, aNilEq, aNilEq0, hu, kindFits, isNilConst, isNilV]
end
theorem zE (d : Option Tmp) (op : Op) (ty : TypeId) (ps : String) (af : Array Edge) (j : Nat) (w : Bool) (all : List Oper) (env : Tr Value) : wantedA ⟨d, op, ty, ps, af, some (j, w)⟩ all env = match dstAt all j with
    | some t => match env.get t with
      | some (.bool b) => cond w b (!b)
      | _ => false
    | none => false := by
  simp only [wantedA]
  unfold dstAt
  cases (all[j]?).bind (·.dst) with
  | none => rfl
  | some t =>
    simp only
    cases env.get t with
    | none => rfl
    | some v => cases v <;> (try rfl) <;> (rename_i b; cases b <;> cases w <;> rfl)
/-! ### an order that is drawn -/
section
variable {bf : List Nat} {k : Nat} {cs : List (Nat × Class)}
theorem zM (c : Class) : clash c .pure = false := by cases c <;> rfl
theorem zN (c : Class) : clash .pure c = false := by cases c <;> rfl
theorem zO (i j : Nat) : clash (.load i) (.load j) = false := rfl
theorem zP (i j : Nat) : clash (.load i) (.fresh j) = false := rfl
theorem zQ (i j : Nat) : clash (.fresh i) (.load j) = false := rfl
theorem zR (i j : Nat) : clash (.fresh i) (.fresh j) = false := rfl
theorem zS (i : Nat) (q : Bool) (w : List Nat) : clash (.load i) (.other q w) = w.any (Nat.beq i) := rfl
theorem zT (i : Nat) (q : Bool) (w : List Nat) : clash (.other q w) (.load i) = w.any (Nat.beq i) := rfl
theorem zU (i : Nat) (q : Bool) (w : List Nat) : clash (.fresh i) (.other q w) = w.any (Nat.beq i) := rfl
theorem zV (i : Nat) (q : Bool) (w : List Nat) : clash (.other q w) (.fresh i) = w.any (Nat.beq i) := rfl
theorem zW (q r : Bool) (w u : List Nat) : clash (.other q w) (.other r u) = !(q && r) := rfl
theorem zL (j : Nat) (c' c : Class) : calm bf k ((j, c') :: cs) c = ((!clash c' c || ((bf[k]?).getD 0).testBit j) && calm bf k cs c) := by
  simp only [calm, List.any_cons]
  cases ((bf[k]?).getD 0).testBit j <;> cases clash c' c <;> simp
theorem zK : calm bf k cs .pure = true := calm_pure _ fun p _ => zM p.2
end
theorem zX (n : Nat) : Nat.beq n n = true := Nat.beq_refl n

/-! ### numbers of blocks -/
theorem jk {i nx : Nat} (h : i < nx) (k : Nat) : (i = nx + k) = False := eq_false (by omega)
theorem jn {i nx : Nat} (h : i < nx) : (i = nx) = False := eq_false (by omega)
theorem jo {i nx : Nat} (h : i < nx) (k : Nat) : (nx + k = i) = False := eq_false (by omega)
theorem jp {i nx : Nat} (h : i < nx) : (nx = i) = False := eq_false (by omega)
theorem jq (nx k : Nat) : (nx = nx + (k + 1)) = False := eq_false (by omega)
theorem jr (nx k : Nat) : (nx + (k + 1) = nx) = False := eq_false (by omega)
theorem jt (nx : Nat) : Nat.ble nx nx = true := by rw [Nat.ble_eq]; exact Nat.le_refl _
theorem ju (nx k : Nat) : Nat.ble nx (nx + k) = true := by rw [Nat.ble_eq]; exact Nat.le_add_right _ _
theorem js (p : Nat → Bool) (i : Nat) (l : List Nat) : (noteId i l).all p = (p i && l.all p) := by
  unfold noteId
  cases h : l.any (Nat.beq i) with
  | false => rfl
  | true =>
    simp only [cond]
    rw [List.any_eq_true] at h
    obtain ⟨j, hj, e⟩ := h
    have e := Nat.eq_of_beq_eq_true e
    subst e
    cases hl : l.all p with
    | false => simp
    | true => rw [List.all_eq_true.1 hl i hj]; rfl
end Go.Proofs.YtdfadipfhcikdaaGreatDoor

namespace Go.Proofs.YtdfadipfhcikdaaGreatDoor
open Go.RowKit

theorem q_program (P : Program) {α : Type} (k : Program → Sem α) : qval P (.program k) = qval P (k P) := rfl
theorem q_map (P : Program) {α γ : Type} (f : α → γ) (x : Sem α) : qval P (Functor.map f x) = (qval P x).map f := by
  have : (Functor.map f x) = (x >>= fun a => pure (f a)) := rfl
  rw [this, qval_bind]
  cases qval P x <;> rfl
section
variable {P : Program}
theorem q_int (d : Nat) (t : TypeId) (k k' : IntKind) (a b : Int) (h : P.underlying t = some (.int k')) : qval P (Op.equalIn (d + 1) t (.int k a) (.int k b)) = some (decide (a = b)) := by
  simp only [Op.equalIn, qval_bind, qval_underlying h, Option.bind_some, if_true, qval_pure]
  rfl
theorem q_string (d : Nat) (t : TypeId) (a b : ByteArray) (h : P.underlying t = some .string) : qval P (Op.equalIn (d + 1) t (.string a) (.string b)) = some (a == b) := by
  simp only [Op.equalIn, qval_bind, qval_underlying h, Option.bind_some, qval_pure]
def qFields (P : Program) (d : Nat) (xs ys : Array Value) : List Field → Option Bool
  | [] => some true
  | f :: fs => if f.name ≠ "_" then (qval P (part f.type xs f.offset)).bind fun a => (qval P (part f.type ys f.offset)).bind fun b => (qval P (Op.equalIn d f.type a b)).bind fun r => cond r (qFields P d xs ys fs) (some false)
    else qFields P d xs ys fs
theorem q_struct (d : Nat) (t : TypeId) (xs ys : Array Value) (fs : Array Field) (ht : P.underlying t = some (.struct fs)) (hp : P.stoodInHeld t = false) :
    qval P (Op.equalIn (d + 1) t (.agg xs) (.agg ys)) = qFields P d xs ys fs.toList := by
  simp only [Op.equalIn, qval_bind, qval_underlying ht, Option.bind_some]
  have hq : qval P program = some P := rfl
  simp only [hq, Option.bind_some, hp, Bool.false_eq_true, if_false]
  rw [← Array.forIn_toList]
  generalize fs.toList = l
  clear ht
  induction l with
  | nil => rfl
  | cons f fs ih =>
    rw [qval_bind] at ih
    simp only [List.forIn_cons, qFields, qval_bind]
    split
    · simp only [qval_bind, Option.bind_assoc]
      cases qval P (part f.type xs f.offset) with
      | none => rfl
      | some a =>
        simp only [Option.bind_some]
        cases qval P (part f.type ys f.offset) with
        | none => rfl
        | some b =>
          simp only [Option.bind_some]
          cases qval P (Op.equalIn d f.type a b) with
          | none => rfl
          | some r => cases r with
            | false => rfl
            | true =>
              simp only [Option.bind_some, Bool.not_true, Bool.false_eq_true, if_false, qval_pure]
              exact ih
    · simp only [qval_pure, Option.bind_some]
      exact ih

end

/-! ### maps -/
/-- a map's entries are these keys and values -/
def MapIs {K : Type} (f : K → Value) (es : List MapEntry) (kv : List (K × Value)) : Prop := es.map (fun e => (e.key, e.val)) = kv.map fun p => (f p.1, p.2)
def findK {K : Type} [DecidableEq K] (x : K) : List (K × Value) → Nat → Option (Nat × Value)
  | [], _ => none
  | p :: l, i => if x = p.1 then some (i, p.2) else findK x l (i + 1)
/-- the model tells a type's keys from one another as they are told here -/
structure KeyBy (P : Program) (t : TypeId) {K : Type} [DecidableEq K] (f : K → Value) : Prop where
  chk : ∀ b x, qval P (Instr.checkKey b 10000 t (f x)) = some ()
  flat : ∀ x, flat2 (f x) = true
  bits : ∀ x, Instr.sameBits 10000 (f x) (f x) = true
  desc : ∃ d, P.underlying t = some d ∧ ((∀ x y, Instr.sameNow d (f x) (f y) = some (decide (x = y))) ∨ ((∀ x y, Instr.sameNow d (f x) (f y) = none) ∧ ∀ x y, qval P (Op.equal t (f x) (f y)) = some (decide (x = y))))
section
variable {P : Program} {t : TypeId} {K : Type} [DecidableEq K] {f : K → Value}
omit [DecidableEq K] in
theorem MapIs.cons {e : MapEntry} {es : List MapEntry} {kv : List (K × Value)} (h : MapIs f (e :: es) kv) : ∃ p l, kv = p :: l ∧ e.key = f p.1 ∧ e.val = p.2 ∧ MapIs f es l := by
  unfold MapIs at h
  cases kv with
  | nil => simp at h
  | cons p l =>
    simp only [List.map_cons, List.cons.injEq, Prod.mk.injEq] at h
    exact ⟨p, l, rfl, h.1.1, h.1.2, h.2⟩
omit [DecidableEq K] in
theorem MapIs.len {es : List MapEntry} {kv : List (K × Value)} (h : MapIs f es kv) : es.length = kv.length := by
  have := congrArg List.length h; simpa using this
theorem findNow_by {d : TypeDesc} (hs : ∀ x y, Instr.sameNow d (f x) (f y) = some (decide (x = y))) (x : K) : ∀ (es : List MapEntry) (kv : List (K × Value)) (i : Nat), MapIs f es kv → Instr.findNow d (f x) es i = some (findK x kv i)
  | [], kv, i, h => by
    cases kv with
    | nil => rfl
    | cons => simp [MapIs] at h
  | e :: es, kv, i, h => by
    obtain ⟨p, l, rfl, hk, hv, hl⟩ := h.cons
    simp only [Instr.findNow, hk, hs, findK]
    by_cases e1 : x = p.1
    · simp only [e1, decide_true, if_true, hv]
    · simp only [e1, decide_false, if_false]
      exact findNow_by hs x es l (i + 1) hl
theorem findAsking_by (hs : ∀ x y, qval P (Op.equal t (f x) (f y)) = some (decide (x = y))) (x : K) : ∀ (es : List MapEntry) (kv : List (K × Value)) (i : Nat), MapIs f es kv → qval P (Instr.findAsking t (f x) es i) = some (findK x kv i)
  | [], kv, i, h => by
    cases kv with
    | nil => rfl
    | cons => simp [MapIs] at h
  | e :: es, kv, i, h => by
    obtain ⟨p, l, rfl, hk, hv, hl⟩ := h.cons
    simp only [Instr.findAsking, qval_bind, hk, hs, Option.bind_some, findK]
    by_cases e1 : x = p.1
    · simp only [e1, decide_true, if_true, hv, qval_pure]
    · simp only [e1, decide_false, Bool.false_eq_true, if_false]
      exact findAsking_by hs x es l (i + 1) hl
theorem findKey_by (h : KeyBy P t f) (x : K) {es : List MapEntry} {kv : List (K × Value)} (hm : MapIs f es kv) : qval P (Instr.findKey t (f x) es) = some (findK x kv 0) := by
  obtain ⟨d, hd, hs⟩ := h.desc
  simp only [Instr.findKey, qval_bind, qval_underlying hd, Option.bind_some]
  rcases hs with hs | ⟨hn, hs⟩
  · simp only [findNow_by hs x es kv 0 hm, qval_pure]
  · cases es with
    | nil =>
      cases kv with
      | nil => rfl
      | cons => simp [MapIs] at hm
    | cons e es =>
      obtain ⟨p, l, rfl, hk, hv, hl⟩ := hm.cons
      simp only [Instr.findNow, hk, hn]
      exact findAsking_by hs x _ _ 0 hm
theorem map_erase {α γ : Type} (g : α → γ) : ∀ (l : List α) (j : Nat), (l.eraseIdx j).map g = (l.map g).eraseIdx j
  | [], _ => rfl
  | _ :: _, 0 => rfl
  | a :: l, j + 1 => by simp only [List.eraseIdx_cons_succ, List.map_cons, map_erase g l j]
def mapOf (H : AHeap) (i : Nat) : Option (List MapEntry × Nat) := match H.get i with
  | some (.map es c) => some (es, c)
  | _ => none
theorem aLookup_by (h : KeyBy P t f) {mt el : TypeId} {z : Value} (hm : P.underlying mt = some (.map t el)) (hz : zeroOf P el = some z) {H : AHeap} {i c : Nat} {es : List MapEntry} {kv : List (K × Value)} (hg : H.get i = some (.map es c)) (hi : MapIs f es kv) (x : K) (ok : Bool) :
    aLookup P mt (.map (some i)) (f x) ok H = some (match findK x kv 0 with
      | some (_, v) => cond ok (.tuple #[v, .bool true]) v
      | none => cond ok (.tuple #[z, .bool false]) z) := by
  unfold zeroOf at hz
  simp only [aLookup, hm, h.flat, cond, entriesOf, hg, h.chk, findKey_by h x hi]
  cases findK x kv 0 with
  | some r => rfl
  | none =>
    simp only
    split at hz
    · rename_i inf h1
      split at hz
      · rename_i z' h2
        cases h3 : flat2 z' with
        | false => rw [h3] at hz; cases hz
        | true => rw [h3] at hz; simp only [cond, Option.some.injEq] at hz; subst hz; simp only [h1, h2, h3, cond]
      · cases hz
    · cases hz
theorem findK_get (x : K) : ∀ (kv : List (K × Value)) (i j : Nat) (v : Value), findK x kv i = some (j, v) → ∃ k, j = i + k ∧ kv[k]? = some (x, v)
  | [], i, j, v, h => by cases h
  | p :: l, i, j, v, h => by
    unfold findK at h
    split at h
    · rename_i e; cases h; exact ⟨0, rfl, by simp [e]⟩
    · obtain ⟨k, rfl, hk⟩ := findK_get x l (i + 1) j v h
      exact ⟨k + 1, by omega, by simpa using hk⟩
theorem aMapUpdate_new (h : KeyBy P t f) {mt el : TypeId} (hm : P.underlying mt = some (.map t el)) {H : AHeap} {i c : Nat} {es : List MapEntry} {kv : List (K × Value)} (hg : H.get i = some (.map es c)) (hi : MapIs f es kv) (x : K) (v : Value) (hn : findK x kv 0 = none) :
    ∃ es', aMapUpdate P mt (.map (some i)) (f x) v H = some (H.upd i (some (.map es' (c + 1)))) ∧ MapIs f es' (kv ++ [(x, v)]) := by
  refine ⟨es ++ [{ key := f x, val := v, born := c }], ?_, ?_⟩
  · simp only [aMapUpdate, hm, h.flat, cond, hg, h.chk, findKey_by h x hi, hn]
  · unfold MapIs at hi ⊢
    rw [List.map_append, List.map_append, hi]; rfl
theorem aMapUpdate_old (h : KeyBy P t f) {mt el : TypeId} (hm : P.underlying mt = some (.map t el)) {H : AHeap} {i c : Nat} {es : List MapEntry} {kv : List (K × Value)} (hg : H.get i = some (.map es c)) (hi : MapIs f es kv) (x : K) (v : Value) {j : Nat} {u : Value} (hn : findK x kv 0 = some (j, u)) :
    ∃ es', aMapUpdate P mt (.map (some i)) (f x) v H = some (H.upd i (some (.map es' c))) ∧ MapIs f es' (kv.set j (x, v)) := by
  obtain ⟨k, hk, hx⟩ := findK_get x kv 0 j u hn
  rw [Nat.zero_add] at hk
  subst hk
  have hj : j < kv.length := (List.getElem?_eq_some_iff.1 hx).1
  have hje : j < es.length := by rw [hi.len]; exact hj
  have hkey : (es[j]).key = f x := by
    have h1 := congrArg (fun l : List (Value × Value) => l[j]?) hi
    simp only [List.getElem?_map, hx, Option.map_some, List.getElem?_eq_getElem hje, Option.some.injEq, Prod.mk.injEq] at h1
    exact h1.1
  refine ⟨es.set j { key := f x, val := v, born := (es[j]).born }, ?_, ?_⟩
  · simp only [aMapUpdate, hm, h.flat, cond, hg, h.chk, findKey_by h x hi, hn, List.getElem?_eq_getElem hje, hkey, h.bits]
  · unfold MapIs at hi ⊢
    rw [List.map_set, List.map_set, hi]
theorem aDelete_by (h : KeyBy P t f) {mt el : TypeId} (hm : P.underlying mt = some (.map t el)) {H : AHeap} {i c : Nat} {es : List MapEntry} {kv : List (K × Value)} (hg : H.get i = some (.map es c)) (hi : MapIs f es kv) (x : K) :
    ∃ es', aDelete P mt (.map (some i)) (f x) H = some (H.upd i (some (.map es' c))) ∧ MapIs f es' (match findK x kv 0 with
      | some (j, _) => kv.eraseIdx j
      | none => kv) := by
  cases hn : findK x kv 0 with
  | none => exact ⟨es, by simp only [aDelete, hm, h.flat, cond, hg, h.chk, findKey_by h x hi, hn], hi⟩
  | some r =>
    obtain ⟨j, u⟩ := r
    refine ⟨es.eraseIdx j, by simp only [aDelete, hm, h.flat, cond, hg, h.chk, findKey_by h x hi, hn], ?_⟩
    unfold MapIs at hi ⊢
    simp only
    rw [map_erase, map_erase, hi]
end
end Go.Proofs.YtdfadipfhcikdaaGreatDoor

namespace Go.Proofs.YtdfadipfhcikdaaGreatDoor
open Go.RowKit

theorem Je (n : Nat) : ((n : Nat) : Int) = Int.ofNat n := rfl
theorem Jf (a : Value) : cut [a] 0 1 = some [a] := rfl
theorem Jg (a b c : Value) : cut [a, b, c] 0 3 = some [a, b, c] := rfl
theorem Jh (a b c d : Value) : cut [a, b, c, d] 0 4 = some [a, b, c, d] := rfl
theorem Ji (a b c d e : Value) : cut [a, b, c, d, e] 0 5 = some [a, b, c, d, e] := rfl
theorem Jj (a b c d e f : Value) : cut [a, b, c, d, e, f] 0 6 = some [a, b, c, d, e, f] := rfl
theorem all_relogL (p : Nat → Bool) : ∀ (l lg : List Nat), (relogL lg l).all p = (lg.all p && l.all p)
  | [], lg => by simp [relogL]
  | i :: l, lg => by
    show (relogL (noteId i lg) l).all p = _
    rw [all_relogL p l (noteId i lg), js, List.all_cons]
    cases p i <;> cases lg.all p <;> rfl
theorem Jn (p : Nat → Bool) (i : Nat) (l : List Nat) : (noteId i l).any p = (p i || l.any p) := by
  have h := js (fun x => !p x) i l
  rw [List.all_eq_not_any_not, List.all_eq_not_any_not] at h
  simp only [Bool.not_not] at h
  cases h1 : (noteId i l).any p <;> cases h2 : p i <;> cases h3 : l.any p <;> simp_all
theorem Jo (i : Nat) (l : List Nat) : (noteId i l).isEmpty = false := by
  unfold noteId
  cases h : l.any (Nat.beq i) with
  | false => rfl
  | true => cases l with
    | nil => cases h
    | cons => rfl
theorem Jp {i nx : Nat} (h : i < nx) (k : Nat) : Nat.beq i (nx + k) = false := by
  cases e : Nat.beq i (nx + k) with
  | false => rfl
  | true => have := Nat.eq_of_beq_eq_true e; omega
theorem Jq {i nx : Nat} (h : i < nx) : Nat.beq i nx = false := Jp h 0
theorem Jr (nx a b : Nat) : Nat.beq (nx + a) (nx + b) = decide (a = b) := by
  cases e : Nat.beq (nx + a) (nx + b) with
  | false => exact (decide_eq_false fun h => by subst h; rw [Nat.beq_refl] at e; cases e).symm
  | true => have := Nat.eq_of_beq_eq_true e; exact (decide_eq_true (by omega)).symm
theorem Jm {i nx : Nat} (h : i < nx) (k : Nat) : (i < nx + k) = True := eq_true (by omega)
/-- len, whatever of -/
def lenV (P : Program) (t ty : TypeId) (c : Bool) (x : Value) (H : AHeap) : Option Value :=
  match aLen P t x H with
  | some v => some v
  | none => aPure P (val2 x x) ⟨none, .call { callee := .builtin .len, args := #[opnd c 0 x], argTypes := #[t] }, ty, "", #[], none⟩
theorem pure_len (P : Program) (env : Tr Value) (t ty : TypeId) (x : Operand) (d : Option Tmp) (ps : String) (af : Array Edge) (g : Option (Nat × Bool)) :
    aPure P (aEval env) ⟨d, .call { callee := .builtin .len, args := #[x], argTypes := #[t] }, ty, ps, af, g⟩ = aPure P (val2 (aEval env x) (aEval env x)) ⟨none, .call { callee := .builtin .len, args := #[opnd (qT x) 0 (aEval env x)], argTypes := #[t] }, ty, "", #[], none⟩ := by
  cases x <;> simp [aPure, execOp, resolve, opnd, qT, val2, aEval, Op.operands, Call.operands, notSelect]
section
variable {P : Program} {call : CallFn} {env : Tr Value} {fid : Nat} {H : AHeap} {R : Value × AHeap → Prop} {d : Option Tmp} {ty t u e kt : TypeId} {ps : String} {af : Array Edge} {g : Option (Nat × Bool)} {x y : Operand} {c : Bool}
theorem Jb : Got (aStep P call (aEval env) ⟨d, .call { callee := .builtin .len, args := #[x], argTypes := #[t] }, ty, ps, af, g⟩ fid H) R = Got (lenV P t ty (qT x) (aEval env x) H) fun v => R (v, H) := by
  simp only [aStep, aSimple, lenV]
  rw [← pure_len P env t ty x d ps af g]
  cases aLen P t (aEval env x) H with
  | some v => simp only [qL]
  | none => simp only [qN]
theorem lenV_slice (hu : P.underlying t = some (.slice e)) (a : Option Addr) (n k : Nat) : lenV P t ty c (.slice a n k) H = some (.int .i64 (.ofNat n)) := by simp only [lenV, aLen, hu]; rfl
theorem lenV_map0 (hu : P.underlying t = some (.map kt e)) : lenV P t ty c (.map none) H = some (.int .i64 (.ofNat 0)) := by simp only [lenV, aLen, hu, entriesOf, Option.map_some]; rfl
theorem lenV_string (hu : P.underlying t = some .string) (s : ByteArray) : lenV P t ty c (.string s) H = some (.int .i64 (.ofNat s.size)) := by
  simp only [lenV, aLen, hu]
  cases c <;> simp [aPure, opnd, val2, notSelect, Op.operands, Call.operands, flat, flat2, flat1, execOp, resolve, invoke, builtin, Builtin.len_, qval_bind, qval_pure, q_map, qval_underlying hu, goInt]
/-- an operation of one value -/
def unV (P : Program) (op : UnOp) (t : TypeId) (c : Bool) (x : Value) : Option Value := aPure P (val2 x x) ⟨none, .unOp op t (opnd c 0 x), 0, "", #[], none⟩
theorem Jc {op : UnOp} : Got (aStep P call (aEval env) ⟨d, .unOp op t x, ty, ps, af, g⟩ fid H) R = Got (unV P op t (qT x) (aEval env x)) fun v => R (v, H) := by
  simp only [aStep, aSimple, qN]
  congr 1
  cases x <;> rfl
theorem Jd (b : Bool) : unV P .not t c (.bool b) = some (.bool (!b)) := by cases c <;> rfl
end

/-! ### cutting a row -/
def isSl : Value → Bool
  | .slice _ _ _ => true
  | _ => false
theorem Jl (a : Option Addr) (n c : Nat) : isSl (.slice a n c) = true := rfl
section
variable {P : Program} {call : CallFn} {ρ : Operand → Value} {fid : Nat} {H : AHeap} {R : Value × AHeap → Prop} {d : Option Tmp} {ty t : TypeId} {ps : String} {af : Array Edge} {g : Option (Nat × Bool)} {x : Operand} {lo hi mx : Option Operand}
theorem Jk (h : isSl (ρ x) = true) : Got (aStep P call ρ ⟨d, .slice t x lo hi mx, ty, ps, af, g⟩ fid H) R = Got (aSlice P t (ρ x) (lo.map ρ) (hi.map ρ) (mx.map ρ) H) fun v => R (v, H) := by
  simp only [aStep, aSimple]
  cases hx : ρ x with
  | slice a n c => simp only [qN]
  | _ => rw [hx] at h; cases h
theorem slice_nil {e : Nat} (he : elemOf P t = some (none, e)) : aSlice P t (.slice none 0 0) (some (.int .i64 (.ofNat 0))) none none H = some (.slice none 0 0) := by
  unfold elemOf at he
  split at he
  · rename_i el hu
    obtain ⟨inf, h1, h2⟩ := Option.map_eq_some_iff.1 he
    simp only [aSlice, hu, h1, boundOf]
    rfl
  · obtain ⟨inf, h1, h2⟩ := Option.map_eq_some_iff.1 he
    cases h2
  · cases he
theorem slice_from {e : Nat} (he : elemOf P t = some (none, e)) {j o n i : Nat} {cells : List Value} {et : TypeId} {w : Bool} (hg : H.get j = some (.row cells et e w)) (hi : i ≤ n) {k : IntKind} :
    aSlice P t (.slice (some ⟨j, o, none⟩) n 0) (some (.int k (.ofNat i))) none none H = some (if i = n then .slice (some ⟨j, o, none⟩) 0 0 else .slice (some ⟨j, o + i * e, none⟩) (n - i) 0) := by
  unfold elemOf at he
  split at he
  · rename_i el hu
    obtain ⟨inf, h1, h2⟩ := Option.map_eq_some_iff.1 he
    cases h2
    have hb : Nat.ble i n = true := Nat.ble_eq ▸ hi
    have hk : capKnown inf.size j H = true := by simp [capKnown, hg]
    simp only [aSlice, hu, h1, boundOf, Option.getD_some, Option.getD_none, hb, jt, Option.isNone_none, Bool.true_or, Bool.and_self, cond, hk]
    by_cases e : i = n
    · subst e; simp only [Nat.beq_refl, if_true]
    · rw [if_neg e, show Nat.beq i n = false from by cases h : Nat.beq i n; · rfl
                                                     · exact absurd (Nat.eq_of_beq_eq_true h) e]
  · obtain ⟨inf, h1, h2⟩ := Option.map_eq_some_iff.1 he
    cases h2
  · cases he
theorem slice_nil0 {e : Nat} (he : elemOf P t = some (none, e)) : aSlice P t (.slice none 0 0) (some (.int .i64 0)) none none H = some (.slice none 0 0) := slice_nil he
theorem slice_from0 {e : Nat} (he : elemOf P t = some (none, e)) {j o n : Nat} {cells : List Value} {et : TypeId} {w : Bool} (hg : H.get j = some (.row cells et e w)) {k : IntKind} :
    aSlice P t (.slice (some ⟨j, o, none⟩) n 0) (some (.int k 0)) none none H = some (if 0 = n then .slice (some ⟨j, o, none⟩) 0 0 else .slice (some ⟨j, o + 0 * e, none⟩) (n - 0) 0) := slice_from he hg (Nat.zero_le _)
end
end Go.Proofs.YtdfadipfhcikdaaGreatDoor

namespace Go.Proofs.YtdfadipfhcikdaaGreatDoor
open Go.RowKit

/-- a value put together of given parts -/
def buildV (P : Program) (t : TypeId) (ps : List (Nat × Value)) : Option Value :=
  aBuild P (fun | .const v => v | _ => undef) t (ps.map fun p => (p.1, Operand.const p.2)).toArray
theorem aBuild_eq (P : Program) (ρ : Operand → Value) (t : TypeId) (ps : Array (Nat × Operand)) : aBuild P ρ t ps = buildV P t (ps.toList.map fun p => (p.1, ρ p.2)) := by
  have h : (((ps.toList.map fun p => (p.1, ρ p.2)).map fun p => (p.1, Operand.const p.2)).toArray.map fun (p : Nat × Operand) => match p with | (i, x) => (i, (fun | Operand.const v => v | _ => undef : Operand → Value) x)) = ps.map fun (p : Nat × Operand) => match p with | (i, x) => (i, ρ x) := by
    apply Array.ext'
    simp
  unfold buildV aBuild
  rw [h]
section
variable {P : Program} {call : CallFn} {ρ : Operand → Value} {fid : Nat} {H : AHeap} {R : Value × AHeap → Prop} {d : Option Tmp} {ty t : TypeId} {ps : String} {af : Array Edge} {g : Option (Nat × Bool)} {cx cy : Bool} {k : IntKind} {a b : Int}
theorem qf {parts : Array (Nat × Operand)} : Got (aStep P call ρ ⟨d, .build t parts, ty, ps, af, g⟩ fid H) R = Got (buildV P t (parts.toList.map fun p => (p.1, ρ p.2))) fun v => R (v, H) := by rw [st_build, aBuild_eq]
theorem b_rem (hb : b ≠ 0) : binV P .rem t cx cy (.int k a) (.int k b) = some (.int k (a.tmod b)) := by cases cx <;> cases cy <;> simp [binV, aPure, opnd, val2, execOp, eqGuard, binOp, Op.intDiv, hb, qval, notSelect, flat, flat2, flat1, Op.operands] <;> rfl
theorem b_quo (hb : b ≠ 0) : binV P .quo t cx cy (.int k a) (.int k b) = some (.int k (k.wrap (a.tdiv b))) := by cases cx <;> cases cy <;> simp [binV, aPure, opnd, val2, execOp, eqGuard, binOp, Op.intDiv, hb, qval, notSelect, flat, flat2, flat1, Op.operands] <;> rfl
end
end Go.Proofs.YtdfadipfhcikdaaGreatDoor

namespace Go.Proofs.YtdfadipfhcikdaaGreatDoor
open Go.RowKit

abbrev str (l : List UInt8) : Value := .string ⟨l.toArray⟩
theorem str_of (s : ByteArray) : Value.string s = str s.data.toList := by cases s; rfl
def isStr : Value → Bool
  | .string _ => true
  | _ => false
theorem Ju (s : ByteArray) : isStr (.string s) = true := rfl
/-! ### a frame that is known whole is kept as a tree -/
section
variable {α : Type} (l r : Tr α) (x v : Option α) (n k : Nat)
theorem put_nil : (Tr.nil : Tr α).put k v = Tr.set (k + 1) .nil k v := rfl
theorem put_node : (Tr.node l x r).put k v = Tr.set (k + 1) (.node l x r) k v := rfl
theorem set_nil_z : Tr.set (n + 1) (Tr.nil : Tr α) 0 v = .node .nil v .nil := rfl
theorem set_node_z : Tr.set (n + 1) (Tr.node l x r) 0 v = .node l v r := rfl
theorem set_nil_e (h : k % 2 = 0) : Tr.set (n + 1) (Tr.nil : Tr α) (k + 1) v = .node (Tr.set n .nil (k / 2) v) none .nil := by simp only [Tr.set, h]; rfl
theorem set_nil_o (h : k % 2 = 1) : Tr.set (n + 1) (Tr.nil : Tr α) (k + 1) v = .node .nil none (Tr.set n .nil (k / 2) v) := by simp only [Tr.set, h]; rfl
theorem set_node_e (h : k % 2 = 0) : Tr.set (n + 1) (Tr.node l x r) (k + 1) v = .node (Tr.set n l (k / 2) v) x r := by simp only [Tr.set, h]; rfl
theorem set_node_o (h : k % 2 = 1) : Tr.set (n + 1) (Tr.node l x r) (k + 1) v = .node l x (Tr.set n r (k / 2) v) := by simp only [Tr.set, h]; rfl
theorem get_node_z : (Tr.node l x r).get 0 = x := rfl
theorem get_node_e (h : k % 2 = 0) : (Tr.node l x r).get (k + 1) = l.get (k / 2) := by simp only [Tr.get, h]; rfl
theorem get_node_o (h : k % 2 = 1) : (Tr.node l x r).get (k + 1) = r.get (k / 2) := by simp only [Tr.get, h]; rfl
end
theorem JM (n : Nat) : (0 ≤ Int.ofNat n) = True := eq_true (Int.natCast_nonneg n)
theorem JN (n : Nat) : (Int.ofNat n).toNat = n := rfl
theorem JO (a b : Nat) : (Int.ofNat a < Int.ofNat b) = (a < b) := by simp
theorem JP (a b : Nat) : (Int.ofNat a ≤ Int.ofNat b) = (a ≤ b) := by simp
theorem JQ (a b : Nat) : (Int.ofNat a = Int.ofNat b) = (a = b) := propext ⟨fun h => by injection h, fun h => by rw [h]⟩
theorem wrap_next (i : Nat) (h : i < 9223372036854775807) : IntKind.i64.wrap (Int.ofNat i + 1) = Int.ofNat (i + 1) := by
  have : Int.ofNat i + 1 = Int.ofNat (i + 1) := rfl
  rw [this]; exact IntWalk.i64_in _ (by simp; omega)
theorem JR (a b : UInt8) : (a.toNat = b.toNat) = (a = b) := propext ⟨fun h => UInt8.toNat_inj.1 h, fun h => by rw [h]⟩
theorem JS (l : List UInt8) : (⟨l.toArray⟩ : ByteArray).size = l.length := by simp [ByteArray.size]
theorem JH (n : Nat) (j k : IntKind) (a b : Int) : lowV n (.tuple #[.int j a, .int k b]) = true := rfl
theorem JI (n : Nat) (j : IntKind) (a : Int) (b : Bool) : lowV n (.tuple #[.int j a, .bool b]) = true := rfl
theorem JJ (n : Nat) (j : IntKind) (a : Int) (b : Bool) : lowV n (.tuple #[.bool b, .int j a]) = true := rfl
theorem JK (n : Nat) (j : IntKind) (a : Int) (b : ByteArray) : lowV n (.tuple #[.string b, .int j a]) = true := rfl
theorem JL (n : Nat) (a : ByteArray) (b : Bool) : lowV n (.tuple #[.string a, .bool b]) = true := rfl
theorem JG (n : Nat) (l : List UInt8) : lowV n (str l) = true := rfl

section
variable {P : Program} {call : CallFn} {ρ : Operand → Value} {env : Tr Value} {fid : Nat} {H : AHeap} {R : Value × AHeap → Prop} {d : Option Tmp} {ty t : TypeId} {ps : String} {af : Array Edge} {g : Option (Nat × Bool)} {x ix : Operand} {lo hi : Option Operand}
/-! ### a letter -/
def ixS (P : Program) (t : TypeId) (a b : Value) : Option Value := aPure P (val2 a b) ⟨none, .index t (.tmp 0) (.tmp 1), 0, "", #[], none⟩
theorem Js (h : isStr (ρ x) = true) : Got (aStep P call ρ ⟨d, .index t x ix, ty, ps, af, g⟩ fid H) R = Got (ixS P t (ρ x) (ρ ix)) fun v => R (v, H) := by
  simp only [aStep, aSimple]
  cases hx : ρ x with
  | string s =>
    have e : aPure P ρ ⟨d, .index t x ix, ty, ps, af, g⟩ = ixS P t (.string s) (ρ ix) := by
      simp [ixS, aPure, Op.operands, execOp, val2, notSelect, hx]
    simp only [e, qN]
  | _ => rw [hx] at h; cases h
theorem ixS_at (hu : P.underlying t = some .string) (l : List UInt8) (k : IntKind) (i : Int) (h : 0 ≤ i) : ixS P t (str l) (.int k i) = (l[i.toNat]?).map fun b => .int .u8 b.toNat := by
  have e : (⟨l.toArray⟩ : ByteArray)[i.toNat]? = l[i.toNat]? := by
    by_cases hl : i.toNat < l.length
    · rw [List.getElem?_eq_getElem hl]
      exact (getElem?_pos (⟨l.toArray⟩ : ByteArray) i.toNat (show i.toNat < l.toArray.size by simpa using hl)).trans (by congr 1)
    · rw [List.getElem?_eq_none (by omega)]
      exact getElem?_neg (⟨l.toArray⟩ : ByteArray) i.toNat (show ¬ i.toNat < l.toArray.size by simpa using hl)
  simp only [ixS, aPure, Op.operands, notSelect, val2, execOp, Instr.index, asIntOf, qval_bind, qval_pure, qval_underlying hu, Option.bind_some, h, if_true, e]
  cases l[i.toNat]? with
  | none =>
    have hbp : ∀ (c : BoundsCode) (y : Int), qval P (boundsPanic (α := Value) k i y c) = none := fun c y => by
      unfold boundsPanic
      by_cases hc : (k != .u64 && 0 ≤ i && i ≤ 31) = true
      · rw [if_pos hc]; rfl
      · rw [if_neg hc]; rfl
    simp only [hbp]
    simp [flat, flat2, flat1]
  | some b => rfl
/-! ### a piece -/
def slS (P : Program) (t : TypeId) (a : Value) (lo hi : Option Value) : Option Value := aPure P (fun | .tmp 0 => a | .tmp 1 => lo.getD undef | _ => hi.getD undef) ⟨none, .slice t (.tmp 0) (lo.map fun _ => .tmp 1) (hi.map fun _ => .tmp 2) none, 0, "", #[], none⟩
theorem Jt (h : isStr (ρ x) = true) : Got (aStep P call ρ ⟨d, .slice t x lo hi none, ty, ps, af, g⟩ fid H) R = Got (slS P t (ρ x) (lo.map ρ) (hi.map ρ)) fun v => R (v, H) := by
  simp only [aStep, aSimple]
  cases hx : ρ x with
  | string s =>
    have e : aPure P ρ ⟨d, .slice t x lo hi none, ty, ps, af, g⟩ = slS P t (.string s) (lo.map ρ) (hi.map ρ) := by
      cases lo <;> cases hi <;> simp [slS, aPure, Op.operands, execOp, notSelect, hx]
    simp only [e, qN]
  | _ => rw [hx] at h; cases h
theorem slS_at (hu : P.underlying t = some .string) (l : List UInt8) {lo hi : Option Value} {i m : Nat} (hlo : (boundOf lo).map (fun x => x.getD 0) = some i) (hhi : (boundOf hi).map (fun x => x.getD l.length) = some m) (him : i ≤ m) (hm : m ≤ l.length) :
    slS P t (str l) lo hi = some (str ((l.drop i).take (m - i))) := by
  have hx : (⟨l.toArray⟩ : ByteArray).extract i m = ⟨((l.drop i).take (m - i)).toArray⟩ := Lib.extract_eq _ _ _
  have hz : (⟨l.toArray⟩ : ByteArray).size = l.length := by simp [ByteArray.size]
  have key : ∀ (lo hi : Option Value), (boundOf lo).map (fun x => x.getD 0) = some i → (boundOf hi).map (fun x => x.getD l.length) = some m → qval P (Instr.sliceBounds false l.length l.length lo hi none) = some (i, m, l.length) := fun lo hi h1 h2 => by
    have hb : ∀ (v : Value) (n y : Nat) (c : BoundsCode), (boundOf (some v)) = some (some n) → n ≤ y → qval P (Instr.sliceBound v y c) = some n := fun v n y c hv hn => by
      unfold boundOf at hv
      split at hv
      · rename_i heq; cases heq
      · rename_i k n' heq
        injection heq with heq
        subst heq
        injection hv with hv
        injection hv with hv
        subst hv
        simp only [Instr.sliceBound, asIntOf, qval_bind, qval_pure, Option.bind_some]
        rw [if_pos ⟨Int.natCast_nonneg n', Int.ofNat_le.2 hn⟩]
        rfl
      · cases hv
    cases lo with
    | none =>
      simp [boundOf] at h1; subst h1
      cases hi with
      | none => simp [boundOf] at h2; subst h2; simp only [Instr.sliceBounds, qval_bind, qval_pure, Option.bind_some]
      | some v =>
        obtain ⟨y, hy, hy2⟩ := Option.map_eq_some_iff.1 h2
        cases y with
        | none => exfalso; unfold boundOf at hy; split at hy <;> simp_all
        | some y => simp at hy2; subst hy2; simp only [Instr.sliceBounds, qval_bind, qval_pure, Option.bind_some, hb v y _ _ hy hm, Bool.false_eq_true, if_false]
    | some u =>
      obtain ⟨z, hz1, hz2⟩ := Option.map_eq_some_iff.1 h1
      cases z with
      | none => exfalso; unfold boundOf at hz1; split at hz1 <;> simp_all
      | some z =>
        simp at hz2; subst hz2
        cases hi with
        | none => simp [boundOf] at h2; subst h2; simp only [Instr.sliceBounds, qval_bind, qval_pure, Option.bind_some, hb u z _ _ hz1 him, Option.isSome_none, Bool.false_eq_true, if_false]
        | some v =>
          obtain ⟨y, hy, hy2⟩ := Option.map_eq_some_iff.1 h2
          cases y with
          | none => exfalso; unfold boundOf at hy; split at hy <;> simp_all
          | some y => simp at hy2; subst hy2; simp only [Instr.sliceBounds, qval_bind, qval_pure, Option.bind_some, hb v y _ _ hy hm, hb u z _ _ hz1 him, Option.isSome_none, Bool.false_eq_true, if_false]
  have hst : ∀ s : ByteArray, flat (.string s) = true := fun _ => rfl
  have hfl : ∀ (v : Value) (n : Option Nat), boundOf (some v) = some n → flat v = true := fun v n hv => by
    unfold boundOf at hv
    split at hv
    · rename_i heq; cases heq
    · rename_i k n' heq; cases heq; rfl
    · cases hv
  obtain ⟨bl, hbl, _⟩ := Option.map_eq_some_iff.1 hlo
  obtain ⟨bh, hbh, _⟩ := Option.map_eq_some_iff.1 hhi
  have fin : ∀ (lo' hi' : Option Value), lo' = lo → hi' = hi → qval P (Instr.sliceAt t (str l) lo' hi' none) = some (str ((l.drop i).take (m - i))) := fun lo' hi' e1 e2 => by
    subst e1 e2
    simp only [Instr.sliceAt, Instr.slice, qval_bind, qval_underlying hu, Option.bind_some, Option.isSome_none, Bool.false_eq_true, if_false, hz, key _ _ hlo hhi, hx, qval_pure]
    try rfl
  cases lo with
  | none => cases hi with
    | none => simp only [slS, aPure, Op.operands, notSelect, execOp, Option.map_none]; simp only [qval_bind, fin none none rfl rfl, Option.bind_some, qval_pure]; simp [hst]
    | some v => simp only [slS, aPure, Op.operands, notSelect, execOp, Option.map_none, Option.map_some, Option.getD_some]; simp only [qval_bind, fin none (some v) rfl rfl, Option.bind_some, qval_pure]; simp [hfl v bh hbh, hst]
  | some u => cases hi with
    | none => simp only [slS, aPure, Op.operands, notSelect, execOp, Option.map_none, Option.map_some, Option.getD_some]; simp only [qval_bind, fin (some u) none rfl rfl, Option.bind_some, qval_pure]; simp [hfl u bl hbl, hst]
    | some v => simp only [slS, aPure, Op.operands, notSelect, execOp, Option.map_none, Option.map_some, Option.getD_some]; simp only [qval_bind, fin (some u) (some v) rfl rfl, Option.bind_some, qval_pure]; simp [hfl u bl hbl, hfl v bh hbh, hst]
/-! ### conversions -/
def cvS (P : Program) (s d : TypeId) (a : Value) : Option Value := aPure P (val2 a a) ⟨none, .convert s d (.tmp 0), 0, "", #[], none⟩
def isIntV : Value → Bool
  | .int _ _ => true
  | _ => false
theorem Jw (k : IntKind) (n : Int) : isIntV (.int k n) = true := rfl
theorem Jv {s' d' : TypeId} (h : isIntV (ρ x) = true) : Got (aStep P call ρ ⟨d, .convert s' d' x, ty, ps, af, g⟩ fid H) R = Got (cvS P s' d' (ρ x)) fun v => R (v, H) := by
  simp only [aStep, aSimple]
  cases hx : ρ x with
  | int k n =>
    have e : aPure P ρ ⟨d, .convert s' d' x, ty, ps, af, g⟩ = cvS P s' d' (.int k n) := by simp [cvS, aPure, Op.operands, execOp, val2, notSelect, hx]
    simp only [e, qN]
  | _ => rw [hx] at h; cases h
theorem cvS_int {s' d' : TypeId} {k' : IntKind} {td : TypeDesc} (hs : P.underlying s' = some td) (hd : P.underlying d' = some (.int k')) (k : IntKind) (n : Int) : cvS P s' d' (.int k n) = some (.int k' (k'.wrap n)) := by
  simp only [cvS, aPure, Op.operands, notSelect, val2, execOp, convert, qval_bind, qval_underlying hs, qval_underlying hd, Option.bind_some]
  cases td <;> rfl
end
section
variable {P : Program} {t u : TypeId} {cx cy : Bool} {k k2 : IntKind} {a b : Int}
theorem binV_of {op : BinOp} {x y v : Value} (hg : ∀ p q, qval P (eqGuard op t p q x y) = some ()) (hb : qval P (binOp op t x y) = some v) (hx : flat x = true) (hy : flat y = true) (hv : flat v = true) : binV P op t cx cy x y = some v := by
  have key : ∀ (ρ : Operand → Value) (p q : Operand), ρ p = x → ρ q = y → aPure P ρ ⟨none, .binOp op t p q 0, 0, "", #[], none⟩ = some v := fun ρ p q h1 h2 => by
    simp only [aPure, notSelect, Op.operands, List.all_cons, List.all_nil, h1, h2, hx, hy, Bool.and_self, cond, execOp, qval_bind, hg, hb, Option.bind_some, qval_pure, hv]
  have := key (val2 x y) (opnd cx 0 x) (opnd cy 1 y) (by cases cx <;> rfl) (by cases cy <;> rfl)
  simp only [binV, this]
theorem listB (l : List UInt8) : (⟨l.toArray⟩ : ByteArray).toList = l := by rw [ByteArray.toList_eq]
theorem b_addS (l m : List UInt8) (h : l.length + m.length ≤ 9223372036854775807) : binV P .add t cx cy (str l) (str m) = some (str (l ++ m)) := by
  have hz : ∀ l : List UInt8, (⟨l.toArray⟩ : ByteArray).size = l.length := fun l => by simp [ByteArray.size]
  have e : (⟨l.toArray⟩ ++ ⟨m.toArray⟩ : ByteArray) = ⟨(l ++ m).toArray⟩ := by
    have := Joins.bytes_eta (⟨l.toArray⟩ ++ ⟨m.toArray⟩ : ByteArray)
    rw [← this, Joins.data_append]
  refine binV_of (fun _ _ => rfl) ?_ rfl rfl rfl
  show qval P (Op.stringOp .add _ _) = _
  unfold Op.stringOp
  simp only [hz]
  rw [if_neg (by rw [show IntKind.i64.max = 9223372036854775807 from by decide]; omega), e]
  rfl
theorem Jx (l m : List UInt8) : binV P .eql t cx cy (str l) (str m) = some (.bool (decide (l = m))) := by
  have e : (l == m) = decide (l = m) := by cases h : l == m <;> simp_all
  refine binV_of (fun _ _ => rfl) ?_ rfl rfl rfl
  show qval P (Op.stringOp .eql _ _) = _
  unfold Op.stringOp
  simp only [listB, e]; rfl
theorem Jy (l m : List UInt8) : binV P .neq t cx cy (str l) (str m) = some (.bool (!decide (l = m))) := by
  have e : (l == m) = decide (l = m) := by cases h : l == m <;> simp_all
  refine binV_of (fun _ _ => rfl) ?_ rfl rfl rfl
  show qval P (Op.stringOp .neq _ _) = _
  unfold Op.stringOp
  simp only [listB, e]; rfl
theorem q_equalB (p q : Bool) (ht : P.underlying t = some .bool) (d : Nat) : qval P (Op.equalIn (d + 1) t (.bool p) (.bool q)) = some (p == q) := by
  simp only [Op.equalIn, qval_bind, qval_underlying ht, Option.bind_some]; rfl
theorem b_eqlB (p q : Bool) (ht : P.underlying t = some .bool) : binV P .eql t cx cy (.bool p) (.bool q) = some (.bool (p == q)) := by
  refine binV_of (fun _ _ => rfl) ?_ rfl rfl rfl
  show qval P (do pure (Value.bool (← Op.equalIn (9999 + 1) t (.bool p) (.bool q)))) = _
  simp only [qval_bind, q_equalB p q ht, Option.bind_some]; rfl
theorem b_neqB (p q : Bool) (ht : P.underlying t = some .bool) : binV P .neq t cx cy (.bool p) (.bool q) = some (.bool (!(p == q))) := by
  refine binV_of (fun _ _ => rfl) ?_ rfl rfl rfl
  show qval P (do pure (Value.bool (!(← Op.equalIn (9999 + 1) t (.bool p) (.bool q))))) = _
  simp only [qval_bind, q_equalB p q ht, Option.bind_some]; rfl
theorem Jz : binV P .and t cx cy (.int k a) (.int k b) = some (.int k (k.wrap (BitVec.ofInt k.bits a &&& BitVec.ofInt k.bits b).toNat)) := by cases cx <;> cases cy <;> simp [binV, aPure, opnd, val2, execOp, eqGuard, binOp, Op.intBits, qval, notSelect, flat, flat2, flat1, Op.operands] <;> rfl
theorem JA : binV P .or t cx cy (.int k a) (.int k b) = some (.int k (k.wrap (BitVec.ofInt k.bits a ||| BitVec.ofInt k.bits b).toNat)) := by cases cx <;> cases cy <;> simp [binV, aPure, opnd, val2, execOp, eqGuard, binOp, Op.intBits, qval, notSelect, flat, flat2, flat1, Op.operands] <;> rfl
theorem JB : binV P .xor t cx cy (.int k a) (.int k b) = some (.int k (k.wrap (BitVec.ofInt k.bits a ^^^ BitVec.ofInt k.bits b).toNat)) := by cases cx <;> cases cy <;> simp [binV, aPure, opnd, val2, execOp, eqGuard, binOp, Op.intBits, qval, notSelect, flat, flat2, flat1, Op.operands] <;> rfl
theorem JC (hb : 0 ≤ b) : binV P .shl t cx cy (.int k a) (.int k2 b) = some (.int k (k.wrap (a * 2 ^ (min b.toNat k.bits)))) := by
  have h : ¬ b < 0 := by omega
  cases cx <;> cases cy <;> simp [binV, aPure, opnd, val2, execOp, eqGuard, binOp, Op.shift, h, qval, notSelect, flat, flat2, flat1, Op.operands] <;> rfl
theorem JD (hb : 0 ≤ b) : binV P .shr t cx cy (.int k a) (.int k2 b) = some (.int k (a.fdiv (2 ^ (min b.toNat k.bits)))) := by
  have h : ¬ b < 0 := by omega
  cases cx <;> cases cy <;> simp [binV, aPure, opnd, val2, execOp, eqGuard, binOp, Op.shift, h, qval, notSelect, flat, flat2, flat1, Op.operands] <;> rfl
theorem JE : unV P .neg t cx (.int k a) = some (.int k (k.wrap (0 - a))) := by cases cx <;> rfl
theorem JF : unV P .xor t cx (.int k a) = some (.int k (k.wrap (BitVec.ofInt k.bits (if k.signed then -1 else k.max) ^^^ BitVec.ofInt k.bits a).toNat)) := by cases cx <;> rfl
end
end Go.Proofs.YtdfadipfhcikdaaGreatDoor

namespace Go.Proofs.YtdfadipfhcikdaaGreatDoor
open Go.RowKit

theorem below_goes {β : Ren} {H : AHeap} {w w' : World} (hr : Rel β H w) (h2 : Below w.heap.size w w') : Goes β H w β H w' :=
  ⟨β.le_refl, ⟨fun i o s a b => (hr.obj i o s a b).mono β.le_refl (h2.block _ (hr.blk i s b)), fun i s b => Nat.lt_of_lt_of_le (hr.blk i s b) h2.size, hr.apart, hr.fresh⟩, h2.os, h2.tape, h2.output, h2.size, fun b hb _ => h2.block b hb, fun _ _ h => h, fun _ _ h => h⟩
theorem flat_args {β : Ren} {args args' : List Value} (ha : args.all flat = true) (h : ListVR β args args') : args' = args := by
  refine List.ext_getElem? fun j => ?_
  by_cases hj : j < args.length
  · have hj' : j < args'.length := by rw [← h.1]; exact hj
    rw [List.getElem?_eq_getElem hj, List.getElem?_eq_getElem hj']
    congr 1
    exact (flat_vr (List.all_eq_true.1 ha _ (List.getElem_mem hj)) β).2 _ (h.2 j _ _ (List.getElem?_eq_getElem hj) (List.getElem?_eq_getElem hj'))
  · have hl := h.1
    rw [List.getElem?_eq_none (by omega), List.getElem?_eq_none (by omega)]
abbrev Owed (P : Program) (gs : List Nat) (f : FuncId) (args : List Value) (H : AHeap) (v : Value) (H' : AHeap) : Prop := LogLe H.next H H' ∧
  (∀ (β : Ren) (w : World) (args' : List Value), Rel β H w → GlobOk gs β → ListVR β args args' → Calls P f args'.toArray w fun e w' => ∃ v' β', e = .returned v' ∧ VR β' v v' ∧ Goes β H w β' H' w' ∧ Ren.agree H.next β β')
/-- an answer without blocks; all stays -/
theorem quiet_owed {P : Program} {gs : List Nat} {f : FuncId} {args : List Value} {v : Value} {H : AHeap} (ha : args.all flat = true) (hv : flat v = true)
    (h : ∀ (β : Ren) (w : World), Rel β H w → GlobOk gs β → Calls P f args.toArray w fun e w' => e = .returned v ∧ Below w.heap.size w w') : Owed P gs f args H v H := by
  refine ⟨LogLe.refl _ _, fun β w args' hr hg hargs => ?_⟩
  rw [flat_args ha hargs]
  exact (h β w hr hg).mono fun e w' ⟨h1, h2⟩ => ⟨v, β, h1, (flat_vr hv β).1, below_goes hr h2, fun _ _ => rfl⟩
/-- an answer with one new block, of which nothing is known -/
theorem fresh_owed {P : Program} {gs : List Nat} {f : FuncId} {args : List Value} {k : IntKind} {a : Int} {t : TypeId} {H : AHeap} (ha : args.all flat = true) (hw : WF H)
    (h : ∀ (β : Ren) (w : World), Rel β H w → GlobOk gs β → Calls P f args.toArray w fun e w' => ∃ N, e = .returned (.tuple #[.int k a, .iface t (.pointer (some ⟨N, 0, none⟩))]) ∧ w.heap.size ≤ N ∧ N < w'.heap.size ∧ Below w.heap.size w w') :
    Owed P gs f args H (.tuple #[.int k a, .iface t (.pointer (some ⟨H.next, 0, none⟩))]) { H with next := H.next + 1 } := by
  refine ⟨⟨fun i _ _ => rfl, fun i h => h, Nat.le_succ _, fun i _ h => h, fun hw i hi => hw i (Nat.le_of_succ_le hi), fun i h => .inl h⟩, fun β w args' hr hg hargs => ?_⟩
  rw [flat_args ha hargs]
  refine (h β w hr hg).mono fun e w' ⟨N, h1, h3, h4, h2⟩ => ?_
  have g := below_goes hr h2
  have hn : β H.next = none := hr.fresh _ (Nat.le_refl _)
  refine ⟨_, β.put H.next ⟨N, 0, 0, 0, false⟩, h1, ?_, ?_, fun i hi => Ren.put_other _ _ (by omega)⟩
  · refine .tuple rfl fun j x y hx hy => ?_
    match j with
    | 0 => simp at hx hy; subst hx hy; exact .int _ _
    | 1 => simp at hx hy; subst hx hy; exact .iface (.ptr (Ren.put_same ..))
    | j + 2 => simp at hx
  · have hle : β.le (β.put H.next ⟨N, 0, 0, 0, false⟩) := β.le_put _ _ hn
    have hold : ∀ {i : Nat} {si : Spot}, (β.put H.next ⟨N, 0, 0, 0, false⟩) i = some si → (i = H.next ∧ si = ⟨N, 0, 0, 0, false⟩) ∨ (i ≠ H.next ∧ β i = some si) := by
      intro i si hi
      by_cases e : i = H.next
      · subst e; rw [Ren.put_same] at hi; cases hi; exact .inl ⟨rfl, rfl⟩
      · rw [Ren.put_other β _ e] at hi; exact .inr ⟨e, hi⟩
    have hne : ∀ i o, H.get i = some o → i ≠ H.next := fun i o hi e => by subst e; rw [hw _ (Nat.le_refl _)] at hi; cases hi
    refine ⟨hle, ⟨?_, ?_, ?_, ?_⟩, g.os, g.tape, g.output, g.size, g.keep, ?_, ?_⟩
    · intro i o s a b
      rcases hold b with ⟨rfl, _⟩ | ⟨_, b⟩
      · exact absurd rfl (hne _ o a)
      · exact (g.rel.obj i o s a b).mono hle rfl
    · intro i s b
      rcases hold b with ⟨_, rfl⟩ | ⟨_, b⟩
      · exact h4
      · exact g.rel.blk i s b
    · intro i j oi oj si sj a b c d hij hso
      rcases hold c with ⟨rfl, _⟩ | ⟨_, c⟩
      · exact absurd rfl (hne _ oi a)
      · rcases hold d with ⟨rfl, _⟩ | ⟨_, d⟩
        · exact absurd rfl (hne _ oj b)
        · exact g.rel.apart i j oi oj si sj a b c d hij hso
    · intro i hi
      have hi : H.next + 1 ≤ i := hi
      rw [Ren.put_other β _ (by omega)]
      exact hr.fresh i (by omega)
    · rintro b hb ⟨i, o, s, a, c, d, e⟩
      rcases hold c with ⟨rfl, _⟩ | ⟨_, c⟩
      · exact absurd rfl (hne _ o a)
      · exact ⟨i, o, s, a, c, d, e⟩
    · rintro b hb ⟨i, o, s, a, c, e⟩
      rcases hold c with ⟨rfl, _⟩ | ⟨_, c⟩
      · exact absurd rfl (hne _ o a)
      · exact ⟨i, o, s, a, c, e⟩
/-- two helps beside each other -/
def orHelp (O1 O2 : Helps) : Helps := fun f => match O1 f with
  | some g => some g
  | none => O2 f
theorem orHelp_sound {P : Program} {gs : List Nat} {O1 O2 : Helps} (h1 : CallSound P gs (helpFn O1)) (h2 : CallSound P gs (helpFn O2)) : CallSound P gs (helpFn (orHelp O1 O2)) := fun f args H v H' h hwf => by
  unfold helpFn orHelp at h
  cases hf : O1 f with
  | some g =>
    rw [hf] at h
    exact h1 f args H v H' (by unfold helpFn; rw [hf]; exact h) hwf
  | none =>
    rw [hf] at h
    exact h2 f args H v H' (by unfold helpFn; exact h) hwf
end Go.Proofs.YtdfadipfhcikdaaGreatDoor

namespace Go.Proofs.YtdfadipfhcikdaaGreatDoor
open Go.RowKit

/-- things as cells -/
structure Enc (α : Type) where
  cells : α → List Value
  sz : Nat
  len : ∀ a, (cells a).length = sz
  one : ∀ a, (cells a).all oneV = true
namespace Enc
variable {α : Type} (E : Enc α)
def flat (l : List α) : List Value := l.flatMap E.cells
theorem flat_nil : E.flat [] = [] := rfl
theorem flat_cons (a : α) (l : List α) : E.flat (a :: l) = E.cells a ++ E.flat l := rfl
theorem flat_app (l m : List α) : E.flat (l ++ m) = E.flat l ++ E.flat m := by simp only [flat, List.flatMap_append]
theorem flat_one (a : α) : E.flat [a] = E.cells a := by simp only [flat, List.flatMap_cons, List.flatMap_nil, List.append_nil]
theorem flat_len (l : List α) : (E.flat l).length = l.length * E.sz := by
  induction l with
  | nil => simp [flat]
  | cons a l ih => rw [flat_cons, List.length_append, E.len, ih, List.length_cons, Nat.add_mul, Nat.one_mul, Nat.add_comm]
theorem flat_all (l : List α) : (E.flat l).all oneV = true := by
  induction l with
  | nil => rfl
  | cons a l ih => rw [flat_cons, List.all_append, E.one, ih]; rfl
theorem list_split {l : List α} {r : Nat} {a : α} (h : l[r]? = some a) : l = l.take r ++ (a :: l.drop (r + 1)) := by
  have hr := (List.getElem?_eq_some_iff.1 h).1
  conv => lhs; rw [← List.take_append_drop r l, List.drop_eq_getElem_cons hr]
  rw [(List.getElem?_eq_some_iff.1 h).2]
theorem flat_split {l : List α} {r : Nat} {a : α} (h : l[r]? = some a) : E.flat l = E.flat (l.take r) ++ (E.cells a ++ E.flat (l.drop (r + 1))) := by
  conv => lhs; rw [list_split h]
  rw [flat_app, flat_cons]
theorem take_len {l : List α} {r : Nat} (h : r < l.length) : (E.flat (l.take r)).length = r * E.sz := by rw [flat_len, List.length_take, Nat.min_eq_left (Nat.le_of_lt h)]
theorem flat_get {l : List α} {r : Nat} {a : α} (h : l[r]? = some a) (pre post : List Value) {off : Nat} (ho : off < E.sz) : (pre ++ (E.flat l ++ post))[pre.length + r * E.sz + off]? = (E.cells a)[off]? := by
  have hr := (List.getElem?_eq_some_iff.1 h).1
  have hl := E.take_len hr
  rw [List.getElem?_append_right (by omega), E.flat_split h, List.append_assoc, List.getElem?_append_right (by omega), List.append_assoc, List.getElem?_append_left (by rw [E.len]; omega)]
  congr 1; omega
theorem flat_set {l : List α} {r : Nat} {a a' : α} (h : l[r]? = some a) (pre post : List Value) {off : Nat} {v : Value} (ho : off < E.sz) (hc : E.cells a' = (E.cells a).set off v) :
    (pre ++ (E.flat l ++ post)).set (pre.length + r * E.sz + off) v = pre ++ (E.flat (l.set r a') ++ post) := by
  have hr := (List.getElem?_eq_some_iff.1 h).1
  have hl := E.take_len hr
  have e : l.set r a' = l.take r ++ (a' :: l.drop (r + 1)) := by rw [List.set_eq_take_append_cons_drop, if_pos hr]
  rw [List.set_append_right _ _ (by omega), e, flat_app, flat_cons, E.flat_split h, List.append_assoc, List.set_append_right _ _ (by omega), List.append_assoc, List.set_append_left _ _ (by rw [E.len]; omega), hc]
  rw [show pre.length + r * E.sz + off - pre.length - (E.flat (l.take r)).length = off from by omega]
  simp only [List.append_assoc]
theorem flat_cut {l : List α} {r : Nat} {a : α} (h : l[r]? = some a) (pre post : List Value) {off m : Nat} (ho : off + m ≤ E.sz) : cut (pre ++ (E.flat l ++ post)) (pre.length + r * E.sz + off) m = some (((E.cells a).drop off).take m) := by
  have hr := (List.getElem?_eq_some_iff.1 h).1
  have hl := E.take_len hr
  have hs : pre ++ (E.flat l ++ post) = (pre ++ (E.flat (l.take r) ++ (E.cells a).take off)) ++ ((((E.cells a).drop off).take m) ++ (((E.cells a).drop off).drop m ++ (E.flat (l.drop (r + 1)) ++ post))) := by
    rw [E.flat_split h]
    simp only [List.append_assoc]
    congr 2
    rw [← List.append_assoc ((((E.cells a).drop off).take m)), List.take_append_drop, ← List.append_assoc (List.take off _), List.take_append_drop]
  refine cut_in ?_ _ _ ?_ hs
  · rw [List.length_take, List.length_drop, E.len]; omega
  · rw [List.length_append, List.length_append, hl, List.length_take, E.len]; omega
/-- the whole of a row, or a piece of it -/
theorem flat_cut_all (l : List α) (pre post : List Value) {n : Nat} (hn : n ≤ l.length) : cut (pre ++ (E.flat l ++ post)) pre.length (n * E.sz) = some (E.flat (l.take n)) := by
  have hs : pre ++ (E.flat l ++ post) = pre ++ (E.flat (l.take n) ++ (E.flat (l.drop n) ++ post)) := by
    rw [← List.append_assoc (E.flat (l.take n)), ← flat_app, List.take_append_drop]
  refine cut_in ?_ _ _ rfl hs
  rw [flat_len, List.length_take, Nat.min_eq_left hn]
end Enc

def shiftA (k : Nat) (a : Addr) : Addr := ⟨a.block, a.off + k, a.spot⟩
/-- where a list of things lies -/
def SlAt {α : Type} (E : Enc α) (T : TypeId) (w : Bool) (o : Tr AObj) (nx : Nat) (a : Option Addr) (l : List α) : Prop :=
  (a = none ∧ l = []) ∨ ∃ j p pre post, a = some ⟨j, p, none⟩ ∧ j < nx ∧ o.get j = some (.row (pre ++ (E.flat l ++ post)) T E.sz w) ∧ pre.length = p
section
variable {α : Type} {E : Enc α} {T : TypeId} {w : Bool} {o o' : Tr AObj} {nx nx' : Nat} {a : Option Addr} {l : List α}
theorem SlAt.nil : SlAt E T w o nx none [] := .inl ⟨rfl, rfl⟩
theorem SlAt.some {r : Nat} (h : SlAt E T w o nx a l) (hr : r < l.length) : ∃ j p pre post, a = some ⟨j, p, none⟩ ∧ j < nx ∧ o.get j = some (.row (pre ++ (E.flat l ++ post)) T E.sz w) ∧ pre.length = p := by
  rcases h with ⟨_, rfl⟩ | h
  · simp at hr
  · exact h
theorem SlAt.new {j : Nat} (hj : j < nx) (h : o.get j = Option.some (.row (E.flat l) T E.sz w)) : SlAt E T w o nx (Option.some ⟨j, 0, none⟩) l := .inr ⟨j, 0, [], [], rfl, hj, by rw [List.append_nil]; exact h, rfl⟩
theorem SlAt.keep (h : SlAt E T w o nx a l) (hk : ∀ ad, a = Option.some ad → o'.get ad.block = o.get ad.block) (hn : nx ≤ nx') : SlAt E T w o' nx' a l := by
  rcases h with h | ⟨j, p, pre, post, rfl, hj, hg, hp⟩
  · exact .inl h
  · exact .inr ⟨j, p, pre, post, rfl, Nat.lt_of_lt_of_le hj hn, (hk _ rfl).trans hg, hp⟩
theorem SlAt.lt (h : SlAt E T w o nx a l) {ad : Addr} (he : a = Option.some ad) : ad.block < nx := by
  rcases h with ⟨rfl, _⟩ | ⟨j, p, pre, post, rfl, hj, hg, hp⟩
  · cases he
  · cases he; exact hj
/-- a piece of a list lies there too -/
theorem SlAt.cut (h : SlAt E T w o nx a l) {i m : Nat} (hi : i ≤ m) (hm : m ≤ l.length) (b : Bool) (hb : b = true → i = m) : SlAt E T w o nx (if b then a else a.map (shiftA (i * E.sz))) ((l.take m).drop i) := by
  rcases h with ⟨rfl, rfl⟩ | ⟨j, p, pre, post, rfl, hj, hg, hp⟩
  · left; cases b <;> simp
  · right
    cases b with
    | true =>
      have e : (l.take m).drop i = [] := List.drop_eq_nil_of_le (by rw [List.length_take]; have := hb rfl; omega)
      exact ⟨j, p, pre, E.flat l ++ post, rfl, hj, by rw [e, Enc.flat_nil, List.nil_append]; exact hg, hp⟩
    | false =>
      refine ⟨j, p + i * E.sz, pre ++ E.flat (l.take i), E.flat (l.drop m) ++ post, rfl, hj, ?_, ?_⟩
      · rw [hg]
        have : E.flat l = E.flat (l.take i) ++ (E.flat ((l.take m).drop i) ++ E.flat (l.drop m)) := by
          rw [← E.flat_app, ← E.flat_app]
          congr 1
          conv => lhs; rw [← List.take_append_drop m l, ← List.take_append_drop i (l.take m)]
          rw [List.take_take, Nat.min_eq_left hi, List.append_assoc]
        rw [this]; simp only [List.append_assoc]
      · rw [List.length_append, E.flat_len, List.length_take, Nat.min_eq_left (by omega), hp]
/-- what append reads of it -/
theorem SlAt.add (h : SlAt E T w o nx a l) {lg : List Nat} {c : Nat} (hc : a = none → c = 0) : addCells E.sz (.slice a l.length c) ⟨o, nx', lg⟩ = Option.some (l.length, E.flat l) := by
  rcases h with ⟨rfl, rfl⟩ | ⟨j, p, pre, post, rfl, hj, hg, hp⟩
  · rw [hc rfl]; rfl
  · have := E.flat_cut_all l pre post (Nat.le_refl l.length)
    rw [List.take_length, hp] at this
    simp only [addCells, qH, hg, this, Option.map_some]
end

/-! ### cutting -/
def cutS (sz : Nat) (a : Option Addr) (c i m : Nat) : Value := match c with
  | 0 => .slice (if Nat.beq i m then a else a.map (shiftA (i * sz))) (m - i) 0
  | c + 1 => .slice (if Nat.beq c i then a else a.map (shiftA (i * sz))) (m - i) (c - i + 1)
section
variable {α : Type} {E : Enc α} {T t : TypeId} {w : Bool} {P : Program} {o : Tr AObj} {nx nx' : Nat} {lg : List Nat} {a : Option Addr} {l : List α}
theorem aSlice_at (he : elemOf P t = some (none, E.sz)) (h : SlAt E T w o nx a l) {c : Nat} (hc : a = none → c = 0) {lo hi : Option Value} {i m : Nat} (hlo : (boundOf lo).map (fun x => x.getD 0) = some i) (hhi : (boundOf hi).map (fun x => x.getD l.length) = some m) (him : i ≤ m) (hm : m ≤ l.length) :
    aSlice P t (.slice a l.length c) lo hi none ⟨o, nx', lg⟩ = some (cutS E.sz a c i m) := by
  unfold elemOf at he
  split at he
  · rename_i el hu
    obtain ⟨inf, h1, h2⟩ := Option.map_eq_some_iff.1 he
    obtain ⟨x, hx, rfl⟩ := Option.map_eq_some_iff.1 hlo
    obtain ⟨y, hy, rfl⟩ := Option.map_eq_some_iff.1 hhi
    have hs : inf.size = E.sz := by injection h2
    rcases h with ⟨rfl, rfl⟩ | ⟨j, p, pre, post, rfl, hj, hg, hp⟩
    · rw [hc rfl]
      have hy0 : y.getD 0 = 0 := by cases y with
        | none => rfl
        | some y => simp at hm; simpa using hm
      have hx0 : x.getD 0 = 0 := by
        simp only [List.length_nil, hy0] at him; omega
      simp only [List.length_nil] at hy0 hy ⊢
      have hb0 : boundOf none = some none := rfl
      simp only [aSlice, hu, h1, hx, hy, hb0, hx0, hy0, Option.getD_none, Nat.beq_refl, Bool.and_self, Option.isNone_none, Bool.true_or, cond, cutS, if_true]
    · have k1 : Nat.ble (x.getD 0) (y.getD l.length) = true := Nat.ble_eq ▸ him
      have k2 : Nat.ble (y.getD l.length) l.length = true := Nat.ble_eq ▸ hm
      have hb0 : boundOf none = some none := rfl
      simp only [aSlice, hu, h1, hx, hy, hb0, k1, k2, Option.getD_none, jt, Option.isNone_none, Bool.true_or, Bool.and_self, cond, hs]
      cases c with
      | zero =>
        have hk : capKnown E.sz j ⟨o, nx', lg⟩ = true := by simp [capKnown, qH, hg]
        simp only [hk, cutS]
        cases hb : Nat.beq (x.getD 0) (y.getD l.length) with
        | true =>
          have hb := Nat.eq_of_beq_eq_true hb
          simp only [cond, if_true, hb, Nat.sub_self]
        | false => rfl
      | succ c =>
        simp only [cutS]
        cases Nat.beq c (x.getD 0) <;> rfl
  · obtain ⟨inf, h1, h2⟩ := Option.map_eq_some_iff.1 he
    cases h2
  · cases he
end
end Go.Proofs.YtdfadipfhcikdaaGreatDoor

namespace Go.Proofs.YtdfadipfhcikdaaGreatDoor
open Go.RowKit

theorem jg {α : Sort _} (a b : α) : cond true a b = a := rfl
theorem ji {α : Sort _} (a b : α) : cond false a b = b := rfl
theorem of_got {r : Option (Value × AHeap)} {v : Value × AHeap} (h : Got r fun x => x = v) : r = some v := by
  obtain ⟨a, h1, rfl⟩ := h; exact h1
theorem okTrue_of {r : Option (Value × AHeap)} (h : Got r fun x => x.1 = .bool true) : okTrue r = true := by
  obtain ⟨⟨v, H⟩, rfl, e⟩ := h
  have e : v = .bool true := e
  subst e; rfl
theorem wf_i64 {a : Int} (h : (Lit.int .i64 a).wf = true) : -9223372036854775808 ≤ a ∧ a ≤ 9223372036854775807 := by
  simp [Lit.wf, IntKind.min, IntKind.max, IntKind.bits, IntKind.signed] at h; omega
theorem wf_u8 {a : Int} (h : (Lit.int .u8 a).wf = true) : 0 ≤ a ∧ a ≤ 255 := by
  simp [Lit.wf, IntKind.min, IntKind.max, IntKind.bits, IntKind.signed] at h; omega
theorem leave_fst (H H' : AHeap) (v : Value) : (leave H v H').1 = v := by
  unfold leave
  generalize (H'.log.all (fun i => Nat.ble H.next i) && lowV H.next v) = b
  cases b <;> rfl
theorem y_cut {P : Program} {call : CallFn} {fuel : Nat} {a b : Code} {env : Tr Value} {H : AHeap} {Q : St → Prop} (I : Tr Value → AHeap → Prop) (h1 : Got (rCode P call fuel a env H) fun s => ∃ e h, s = (Way.on, e, h) ∧ I e h) (h2 : ∀ e h, I e h → Got (rCode P call fuel b e h) Q) : Got (rCode P call fuel (.seq a b) env H) Q := by
  rw [za]
  refine h1.mono ?_
  rintro s ⟨e, h, rfl, hi⟩
  exact h2 e h hi
section
variable {P : Program} {call : CallFn} {all os : List Oper} {base k : Nat} {env : Tr Value} {H H' : AHeap} {Q : Tr Value × AHeap → Prop} {d : Option Tmp} {op : Op} {ty : TypeId} {ps : String} {af : Array Edge} {v : Value}
theorem s_op (h : Got (aStep P call (aEval env) ⟨d, op, ty, ps, af, none⟩ (base + k) H) fun r => r = (v, H')) (h2 : Got (rOps P call all base os (k + 1) (putE env d v) H') Q) : Got (rOps P call all base (⟨d, op, ty, ps, af, none⟩ :: os) k env H) Q := by
  rw [zC]; exact h.mono fun a e => by rw [e]; exact h2
theorem s_on {j : Nat} {w : Bool} (hw : wantedA ⟨d, op, ty, ps, af, some (j, w)⟩ all env = true) (h : Got (aStep P call (aEval env) ⟨d, op, ty, ps, af, none⟩ (base + k) H) fun r => r = (v, H')) (h2 : Got (rOps P call all base os (k + 1) (putE env d v) H') Q) : Got (rOps P call all base (⟨d, op, ty, ps, af, some (j, w)⟩ :: os) k env H) Q := by
  rw [zD, hw]; exact h.mono fun a e => by rw [e]; exact h2
theorem s_nil (h : Q (env, H)) : Got (rOps P call all base [] k env H) Q := by rw [zB]; exact h
theorem s_region {fuel id : Nat} {ops : Array Oper} {o : Tr AObj} {nx m : Nat} {lg : List Nat} {R : St → Prop} (hm : ops.toList.length = m) (h : Got (rOps P call ops.toList nx ops.toList 0 env ⟨o, nx + m, lg⟩) fun r => R (.on, r.1, r.2)) : Got (rCode P call fuel (.region id ops false) env ⟨o, nx, lg⟩) R := by
  subst hm; rw [zb]; exact h
end
theorem s_off {P : Program} {call : CallFn} {all os : List Oper} {base k : Nat} {env : Tr Value} {H : AHeap} {Q : Tr Value × AHeap → Prop} {d : Option Tmp} {op : Op} {ty : TypeId} {ps : String} {af : Array Edge} {j : Nat} {w : Bool}
    (hw : wantedA ⟨d, op, ty, ps, af, some (j, w)⟩ all env = false) (h2 : Got (rOps P call all base os (k + 1) (putE env d undef) H) Q) : Got (rOps P call all base (⟨d, op, ty, ps, af, some (j, w)⟩ :: os) k env H) Q := by
  rw [zD, hw]; exact h2
section
variable {P : Program} {call : CallFn} {all os : List Oper} {base k : Nat} {env : Tr Value} {H H' : AHeap} {Q : Tr Value × AHeap → Prop} {d : Option Tmp} {op : Op} {ty : TypeId} {ps : String} {af : Array Edge} {v : Value} {j : Nat} {w b : Bool}
theorem s_guard (hw : wantedA ⟨d, op, ty, ps, af, some (j, w)⟩ all env = b) (h : cond b (Got (aStep P call (aEval env) ⟨d, op, ty, ps, af, none⟩ (base + k) H) fun r => Got (rOps P call all base os (k + 1) (putE env d r.1) r.2) Q) (Got (rOps P call all base os (k + 1) (putE env d undef) H) Q)) :
    Got (rOps P call all base (⟨d, op, ty, ps, af, some (j, w)⟩ :: os) k env H) Q := by
  rw [zD, hw]; exact h
theorem s_then {Y : Prop} (h : Got (aStep P call (aEval env) ⟨d, op, ty, ps, af, none⟩ (base + k) H) fun r => r = (v, H')) (h2 : Got (rOps P call all base os (k + 1) (putE env d v) H') Q) :
    cond true (Got (aStep P call (aEval env) ⟨d, op, ty, ps, af, none⟩ (base + k) H) fun r => Got (rOps P call all base os (k + 1) (putE env d r.1) r.2) Q) Y := by
  exact h.mono fun a e => by rw [e]; exact h2
theorem s_else {X Y : Prop} (h : Y) : cond false X Y := h
end
/-- an operation of which only something is known -/
theorem s_do {P : Program} {call : CallFn} {all os : List Oper} {base k : Nat} {env : Tr Value} {H : AHeap} {Q : Tr Value × AHeap → Prop} {d : Option Tmp} {op : Op} {ty : TypeId} {ps : String} {af : Array Edge} (R : Value × AHeap → Prop)
    (h : Got (aStep P call (aEval env) ⟨d, op, ty, ps, af, none⟩ (base + k) H) R) (h2 : ∀ v H', R (v, H') → Got (rOps P call all base os (k + 1) (putE env d v) H') Q) : Got (rOps P call all base (⟨d, op, ty, ps, af, none⟩ :: os) k env H) Q := by
  rw [zC]; exact h.mono fun a e => h2 a.1 a.2 e
theorem y_exitcut {P : Program} {call : CallFn} {fuel : Nat} {a b : Code} {env : Tr Value} {H : AHeap} {Q : St → Prop} (h1 : Got (rCode P call fuel a env H) fun s => ∃ id e h, s = (Way.out id, e, h) ∧ Q (Way.out id, e, h)) : Got (rCode P call fuel (.seq a b) env H) Q := by
  rw [za]
  refine h1.mono ?_
  rintro s ⟨id, e, h, rfl, hq⟩
  exact hq
theorem or_t {a b : Bool} (h : b = true) : (a || b) = true := by rw [h]; cases a <;> rfl
theorem and_t {a b : Bool} (h : a = true) (h2 : b = true) : (a && b) = true := by rw [h, h2]; rfl
theorem s_then_do {P : Program} {call : CallFn} {all os : List Oper} {base k : Nat} {env : Tr Value} {H : AHeap} {Q : Tr Value × AHeap → Prop} {d : Option Tmp} {op : Op} {ty : TypeId} {ps : String} {af : Array Edge} {Y : Prop} (R : Value × AHeap → Prop)
    (h : Got (aStep P call (aEval env) ⟨d, op, ty, ps, af, none⟩ (base + k) H) R) (h2 : ∀ v H', R (v, H') → Got (rOps P call all base os (k + 1) (putE env d v) H') Q) :
    cond true (Got (aStep P call (aEval env) ⟨d, op, ty, ps, af, none⟩ (base + k) H) fun r => Got (rOps P call all base os (k + 1) (putE env d r.1) r.2) Q) Y := h.mono fun a e => h2 a.1 a.2 e
theorem leave_loud {o o' : Tr AObj} {nx nx' : Nat} {lg l : List Nat} {v : Value} (h : (l.all (fun i => Nat.ble nx i) && lowV nx v) = false) : ∃ lg', leave ⟨o, nx, lg⟩ v ⟨o', nx', l⟩ = (v, ⟨o', nx', lg'⟩) := by
  unfold leave
  simp only [h, cond]
  exact ⟨_, rfl⟩
theorem ble_old {i nx : Nat} (h : i < nx) : Nat.ble nx i = false := by
  cases e : Nat.ble nx i with
  | false => rfl
  | true => rw [Nat.ble_eq] at e; omega
theorem blt_new {i nx : Nat} (h : nx ≤ i) : Nat.blt i nx = false := by
  cases e : Nat.blt i nx with
  | false => rfl
  | true => rw [Nat.blt_eq] at e; omega

end Go.Proofs.YtdfadipfhcikdaaGreatDoor
