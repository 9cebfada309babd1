/- Running the abstract machine on values and memories that are not known whole: the other operations. No program in sight. -/
import Derived.Test.YtmflapajjghpmaaAmSym
namespace Go.Proofs.Ytmflapajjghpmaa
open Go.RowKit
section
variable {P : Program} {call : CallFn} {ρ : Operand → Value} {fid : Nat} {H : AHeap} {R : Value × AHeap → Prop} {d : Option Tmp} {ty : TypeId} {ps : String} {af : Array Edge} {g : Option (Nat × Bool)}
/-- the size of what an index leads to, and how many there are, where that is in the type -/
def elemOf (P : Program) (t : TypeId) : Option (Option Nat × Nat) := match P.underlying t with
  | some (.slice el) => (P.info? el).map fun i => (none, i.size)
  | some (.array n el) => (P.info? el).map fun i => (some n, i.size)
  | _ => none
def indexAt (e : Option Nat × Nat) : Value → Value → Option Value
  | .slice (some ⟨i, p, none⟩) n _, .int _ (.ofNat j) => cond e.1.isNone (cond (Nat.blt j n) (some (.pointer (some ⟨i, p + j * e.2, none⟩))) none) none
  | .pointer (some ⟨i, p, none⟩), .int _ (.ofNat j) => match e.1 with
    | some n => cond (Nat.blt j n) (some (.pointer (some ⟨i, p + j * e.2, none⟩))) none
    | none => none
  | _, _ => none
theorem st_indexAddr {t : TypeId} {x ix : Operand} (e : Option Nat × Nat) (he : elemOf P t = some e) : Got (aStep P call ρ ⟨d, .indexAddr t x ix, ty, ps, af, g⟩ fid H) R = Got (indexAt e (ρ x) (ρ ix)) fun v => R (v, H) := by
  unfold elemOf at he
  simp only [aStep, aSimple]
  split
  · rename_i i p n c k j el hx hi hu
    rw [hu] at he
    obtain ⟨inf, h1, rfl⟩ := Option.map_eq_some_iff.1 he
    simp only [h1, hx, hi, indexAt, Option.isNone_none, cond]
    cases Nat.blt j n <;> simp only [got_some, got_none]
  · rename_i i p k j n el hx hi hu
    rw [hu] at he
    obtain ⟨inf, h1, rfl⟩ := Option.map_eq_some_iff.1 he
    simp only [h1, hx, hi, indexAt]
    cases Nat.blt j n <;> simp only [cond, got_some, got_none]
  · rename_i hno1 hno2
    simp only [got_none]
    refine (eq_false ?_).symm
    rintro ⟨v, hv, _⟩
    unfold indexAt at hv
    split at hv
    · rename_i i p n c k j hx hi
      split at he
      · exact hno1 _ _ _ _ _ _ _ hx hi ‹_›
      · obtain ⟨inf, h1, rfl⟩ := Option.map_eq_some_iff.1 he
        cases hv
      · cases he
    · rename_i i p k j hx hi
      split at he
      · obtain ⟨inf, h1, rfl⟩ := Option.map_eq_some_iff.1 he
        cases hv
      · exact hno2 _ _ _ _ _ _ hx hi ‹_›
      · cases he
    · cases hv
theorem st_lookup {t : TypeId} {x k : Operand} {ok : Bool} : Got (aStep P call ρ ⟨d, .lookup t x k ok, ty, ps, af, g⟩ fid H) R = Got (aLookup P t (ρ x) (ρ k) ok H) fun v => R (v, H) := by simp only [aStep, aSimple, got_map]
theorem st_mapUpdate {t : TypeId} {x k y : Operand} : Got (aStep P call ρ ⟨d, .mapUpdate t x k y, ty, ps, af, g⟩ fid H) R = Got (aMapUpdate P t (ρ x) (ρ k) (ρ y) H) fun h => R (undef, h) := by simp only [aStep, aSimple, got_map]
theorem st_insert {t : TypeId} {x k y : Operand} : Got (aStep P call ρ ⟨d, .insert t x k y, ty, ps, af, g⟩ fid H) R = Got (aMapUpdate P t (ρ x) (ρ k) (ρ y) H) fun h => R (undef, h) := by simp only [aStep, aSimple, got_map]
theorem st_delete {x k : Operand} {t u : TypeId} : Got (aStep P call ρ ⟨d, .call { callee := .builtin .delete, args := #[x, k], argTypes := #[t, u] }, ty, ps, af, g⟩ fid H) R = Got (aDelete P t (ρ x) (ρ k) H) fun h => R (undef, h) := by simp only [aStep, aSimple, got_map]
theorem st_append {x y : Operand} {t u : TypeId} (h : elemZeroOk P t = true) : Got (aStep P call ρ ⟨d, .call { callee := .builtin .append, args := #[x, y], argTypes := #[t, u] }, ty, ps, af, g⟩ fid H) R = Got (aAppend P t u (ρ x) (ρ y) fid H) R := by simp only [aStep, aSimple, h, cond]
theorem st_clear {x : Operand} {t : TypeId} (tv : TypeDesc) (h : P.underlying t = some tv) : Got (aStep P call ρ ⟨d, .call { callee := .builtin .clear, args := #[x], argTypes := #[t] }, ty, ps, af, g⟩ fid H) R = Got (aClear P t (ρ x) H) fun h => R (undef, h) := by simp only [aStep, aSimple, h, got_map]
theorem st_copy {x y : Operand} {t u : TypeId} : Got (aStep P call ρ ⟨d, .call { callee := .builtin .copy, args := #[x, y], argTypes := #[t, u] }, ty, ps, af, g⟩ fid H) R = Got (aCopy P t (ρ x) (ρ y) H) R := by simp only [aStep, aSimple]
/-- len of a row or a map -/
theorem st_len {x : Operand} {t : TypeId} (v : Value) (h : aLen P t (ρ x) H = some v) : Got (aStep P call ρ ⟨d, .call { callee := .builtin .len, args := #[x], argTypes := #[t] }, ty, ps, af, g⟩ fid H) R = R (v, H) := by simp only [aStep, aSimple, h, got_some]
/-- a function value's function -/
def codeOf (P : Program) (f : FuncId) : Bool := match P.funcs[f]? with
  | some fn => fn.body.isSome && fn.name != "runtime.NumGoroutine"
  | none => false
def calleeV (P : Program) : Value → Option (FuncId × List Value × List Value)
  | .func (.func g) first captured => cond (codeOf P g) (some (g, first.toList, captured.toList)) none
  | _ => none
theorem calleeV_func (g : FuncId) (a c : Array Value) (h : codeOf P g = true) : calleeV P (.func (.func g) a c) = some (g, a.toList, c.toList) := by simp only [calleeV, h, cond]
theorem st_call {f : Operand} {args : Array Operand} {ts : Array TypeId} : Got (aStep P call ρ ⟨d, .call { callee := .value f, args := args, argTypes := ts }, ty, ps, af, g⟩ fid H) R =
    Got (calleeV P (ρ f)) fun q => Got (call q.1 (q.2.1 ++ args.toList.map ρ ++ q.2.2) H) R := by
  simp only [aStep, calleeOf, calleeV, codeOf]
  cases ρ f with
  | func fn a c =>
    cases fn with
    | func g =>
      simp only
      cases P.funcs[g]? with
      | none => simp only [cond, got_none]
      | some fn =>
        simp only
        cases (fn.body.isSome && fn.name != "runtime.NumGoroutine") <;> simp only [cond, got_none, got_some]
    | _ => simp only [got_none]
  | _ => simp only [got_none]
end

/-! ### operations on values without blocks -/
def val2 (a b : Value) : Operand → Value
  | .const v => v
  | .tmp 0 => a
  | _ => b
def opnd (c : Bool) (n : Nat) (v : Value) : Operand := cond c (.const v) (.tmp n)
def isC : Operand → Bool
  | .const _ => true
  | _ => false
/-- a binary operation of two values; whether an operand is written out tells for one form alone -/
def binV (P : Program) (op : BinOp) (t : TypeId) (cx cy : Bool) (a b : Value) : Option Value :=
  match aPure P (val2 a b) ⟨none, .binOp op t (opnd cx 0 a) (opnd cy 1 b) 0, 0, "", #[], none⟩ with
  | some v => some v
  | none => aNilEq P op t a b
theorem pure_bin (P : Program) (env : Tr Value) (op : BinOp) (t u ty : TypeId) (x y : Operand) (d : Option Tmp) (ps : String) (af : Array Edge) (g : Option (Nat × Bool)) :
    aPure P (aEval env) ⟨d, .binOp op t x y u, ty, ps, af, g⟩ = aPure P (val2 (aEval env x) (aEval env y)) ⟨none, .binOp op t (opnd (isC x) 0 (aEval env x)) (opnd (isC y) 1 (aEval env y)) 0, 0, "", #[], none⟩ := by
  cases x <;> cases y <;> rfl
theorem st_binOp {P : Program} {call : CallFn} {env : Tr Value} {fid : Nat} {H : AHeap} {R : Value × AHeap → Prop} {d : Option Tmp} {ty : TypeId} {ps : String} {af : Array Edge} {g : Option (Nat × Bool)} {op : BinOp} {t u : TypeId} {x y : Operand} :
    Got (aStep P call (aEval env) ⟨d, .binOp op t x y u, ty, ps, af, g⟩ fid H) R = Got (binV P op t (isC x) (isC y) (aEval env x) (aEval env y)) fun v => R (v, H) := by
  simp only [aStep, aSimple, binV]
  rw [← pure_bin P env op t u ty x y d ps af g]
  cases aPure P (aEval env) ⟨d, .binOp op t x y u, ty, ps, af, g⟩ with
  | some v => simp only [got_some]
  | none => simp only [got_map]
section
variable {P : Program} {t : TypeId} {cx cy : Bool} {k : IntKind} {a b : Int}
theorem b_add : binV P .add t cx cy (.int k a) (.int k b) = some (.int k (k.wrap (a + b))) := by cases cx <;> cases cy <;> simp [binV, aPure, opnd, val2, execOp, eqGuard, binOp, Op.intArith, qval, notSelect, flat, flat2, flat1, Op.operands] <;> rfl
theorem b_sub : binV P .sub t cx cy (.int k a) (.int k b) = some (.int k (k.wrap (a - b))) := by cases cx <;> cases cy <;> simp [binV, aPure, opnd, val2, execOp, eqGuard, binOp, Op.intArith, qval, notSelect, flat, flat2, flat1, Op.operands] <;> rfl
theorem b_mul : binV P .mul t cx cy (.int k a) (.int k b) = some (.int k (k.wrap (a * b))) := by cases cx <;> cases cy <;> simp [binV, aPure, opnd, val2, execOp, eqGuard, binOp, Op.intArith, qval, notSelect, flat, flat2, flat1, Op.operands] <;> rfl
theorem b_lss : binV P .lss t cx cy (.int k a) (.int k b) = some (.bool (decide (a < b))) := by cases cx <;> cases cy <;> simp [binV, aPure, opnd, val2, execOp, eqGuard, binOp, Op.intCmp, qval, notSelect, flat, flat2, flat1, Op.operands] <;> rfl
theorem b_leq : binV P .leq t cx cy (.int k a) (.int k b) = some (.bool (decide (a ≤ b))) := by cases cx <;> cases cy <;> simp [binV, aPure, opnd, val2, execOp, eqGuard, binOp, Op.intCmp, qval, notSelect, flat, flat2, flat1, Op.operands] <;> rfl
theorem b_gtr : binV P .gtr t cx cy (.int k a) (.int k b) = some (.bool (decide (b < a))) := by cases cx <;> cases cy <;> simp [binV, aPure, opnd, val2, execOp, eqGuard, binOp, Op.intCmp, qval, notSelect, flat, flat2, flat1, Op.operands] <;> rfl
theorem b_geq : binV P .geq t cx cy (.int k a) (.int k b) = some (.bool (decide (b ≤ a))) := by cases cx <;> cases cy <;> simp [binV, aPure, opnd, val2, execOp, eqGuard, binOp, Op.intCmp, qval, notSelect, flat, flat2, flat1, Op.operands] <;> rfl
theorem b_eql : binV P .eql t cx cy (.int k a) (.int k b) = some (.bool (decide (a = b))) := by cases cx <;> cases cy <;> simp [binV, aPure, opnd, val2, execOp, eqGuard, binOp, Op.intCmp, qval, notSelect, flat, flat2, flat1, Op.operands] <;> rfl
theorem b_neq : binV P .neq t cx cy (.int k a) (.int k b) = some (.bool (!decide (a = b))) := by cases cx <;> cases cy <;> simp [binV, aPure, opnd, val2, execOp, eqGuard, binOp, Op.intCmp, qval, notSelect, flat, flat2, flat1, Op.operands] <;> rfl
end
end Go.Proofs.Ytmflapajjghpmaa
