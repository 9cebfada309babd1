/- The abstract machine: how it runs a function. -/
import Derived.Test.YtmflapajjghpmaaAmOp6
namespace Go.Proofs.Ytmflapajjghpmaa
open Go.RowKit

/-- a slice type's elements have a zero value of their size -/
def elemZeroOk (P : Program) (t : TypeId) : Bool := match P.underlying t with
  | some (.slice el) => zeroOk P el
  | _ => false
/-- one operation that calls no function -/
def aSimple (P : Program) (ρ : Operand → Value) (o : Oper) (fid : Nat) (H : AHeap) : Option (Value × AHeap) :=
  match o.op with
  | .move x | .assign x => some (ρ x, H)
  | .pick c x y => match ρ c with
    | .bool t => some (cond t (ρ x) (ρ y), H)
    | _ => none
  | .alloc t => match P.info? t with
    | some inf => match inf.zero with
      | some z => cond (flat2 z) (some (.pointer (some ⟨fid, 0, none⟩), newRowA fid z.cells.toList t 0 H)) none
      | none => none
    | none => none
  | .box t x => some (.pointer (some ⟨fid, 0, none⟩), newRowA fid (ρ x).cells.toList t 0 H)
  | .build t ps => (aBuild P ρ t ps).map fun v => (v, H)
  | .buildSlice t n ps => aBuildSlice P ρ t n ps fid H
  | .load t x => (aLoad P t (ρ x) H).map fun v => (v, H)
  | .store t x y => (aStore P t (ρ x) (ρ y) H).map fun H' => (undef, H')
  | .nilCheck x => match ρ x with
    | .pointer (some _) => some (ρ x, H)
    | .func (.func _) _ _ => some (ρ x, H)
    | _ => none
  | .field t x f => match ρ x, P.underlying t with
    | .agg cs, some (.struct fs) => match fs[f]? with
      | some fd => (aPart P fd.type cs fd.offset).map fun v => (v, H)
      | none => none
    | _, _ => none
  | .extract x k => match ρ x with
    | .tuple vs => (vs[k]?).map fun v => (v, H)
    | _ => none
  | .index t x ix => match ρ x, ρ ix, P.underlying t with
    | .agg cs, .int _ (.ofNat i), some (.array n el) => match P.info? el with
      | some inf => cond (Nat.blt i n) ((aPart P el cs (i * inf.size)).map fun v => (v, H)) none
      | none => none
    | _, _, _ => (aPure P ρ o).map fun v => (v, H)
  | .makeFunc fn a c => some (.func fn (a.map ρ) (c.map ρ), H)
  | .makeInterface t x => match P.underlying t with
    | some (.interface _) => none
    | some _ => some (.iface t (ρ x), H)
    | none => none
  | .makeMap _ none => some (.map (some fid), H.add fid (.map [] 0))
  | .makeSlice t l c => aMakeSlice P t (ρ l) (ρ c) fid H
  | .fieldAddr t x f => match ρ x, P.underlying t with
    | .pointer (some ⟨i, p, none⟩), some (.struct fs) => match fs[f]? with
      | some fd => match P.info? fd.type with
        | some inf => cond (Nat.beq inf.size 0) none (some (.pointer (some ⟨i, p + fd.offset, none⟩), H))
        | none => none
      | none => none
    | _, _ => none
  | .indexAddr t x ix => match ρ x, ρ ix, P.underlying t with
    | .slice (some ⟨i, p, none⟩) n _, .int _ (.ofNat j), some (.slice el) => match P.info? el with
      | some inf => cond (Nat.blt j n) (some (.pointer (some ⟨i, p + j * inf.size, none⟩), H)) none
      | none => none
    | .pointer (some ⟨i, p, none⟩), .int _ (.ofNat j), some (.array n el) => match P.info? el with
      | some inf => cond (Nat.blt j n) (some (.pointer (some ⟨i, p + j * inf.size, none⟩), H)) none
      | none => none
    | _, _, _ => none
  | .slice t x lo hi mx => match ρ x with
    | .slice _ _ _ => (aSlice P t (ρ x) (lo.map ρ) (hi.map ρ) (mx.map ρ) H).map fun v => (v, H)
    | _ => (aPure P ρ o).map fun v => (v, H)
  | .lookup t x k ok => (aLookup P t (ρ x) (ρ k) ok H).map fun v => (v, H)
  | .mapUpdate t x k y | .insert t x k y => (aMapUpdate P t (ρ x) (ρ k) (ρ y) H).map fun H' => (undef, H')
  | .binOp op t x y _ => match aPure P ρ o with
    | some v => some (v, H)
    | none => (aNilEq P op t (ρ x) (ρ y)).map fun v => (v, H)
  | .call { callee := .builtin .append, args, argTypes } => match args.toList, argTypes.toList with
    | [x, y], [t, u] => cond (elemZeroOk P t) (aAppend P t u (ρ x) (ρ y) fid H) none
    | _, _ => none
  | .call { callee := .builtin .len, args, argTypes } => match args.toList, argTypes.toList with
    | [x], [t] => match aLen P t (ρ x) H with
      | some v => some (v, H)
      | none => (aPure P ρ o).map fun v => (v, H)
    | _, _ => none
  | .call { callee := .builtin .delete, args, argTypes } => match args.toList, argTypes.toList with
    | [x, k], [t, _] => (aDelete P t (ρ x) (ρ k) H).map fun H' => (undef, H')
    | _, _ => none
  | .call { callee := .builtin .clear, args, argTypes } => match args.toList, argTypes.toList with
    | [x], [t] => match P.underlying t with
      | some _ => (aClear P t (ρ x) H).map fun H' => (undef, H')
      | none => none
    | _, _ => none
  | .call { callee := .builtin .copy, args, argTypes } => match args.toList, argTypes.toList with
    | [x, y], [t, _] => aCopy P t (ρ x) (ρ y) H
    | _, _ => none
  | .call { callee := .builtin _, .. } => (aPure P ρ o).map fun v => (v, H)
  | .convert src dst x => match ρ x with
    | .slice _ _ _ => (aToString P src dst (ρ x) H).map fun v => (v, H)
    | _ => (aPure P ρ o).map fun v => (v, H)
  | .unOp .. | .range .. | .next .. => (aPure P ρ o).map fun v => (v, H)
  | _ => none

/-! ### the frame -/
def aEval (env : Tr Value) : Operand → Value
  | .tmp t => (env.get t).getD undef
  | .const v => v
  | .global g => .pointer (some ⟨g, 0, none⟩)
  | .func f => .func (.func f) #[] #[]
def putE (env : Tr Value) : Option Tmp → Value → Tr Value
  | some d, v => env.put d (some v)
  | none, _ => env
def dstOk (nt : Nat) : Option Tmp → Bool
  | some d => Nat.blt d nt
  | none => true
/-- the constants of an operation are values without blocks; no global variable but those of a list -/
def constsOk (gs : List Nat) (o : Oper) : Bool := o.op.operands.toList.all fun
  | .const v => flat v
  | .global g => gs.any (Nat.beq g)
  | _ => true
def wantedA (o : Oper) (ops : List Oper) (env : Tr Value) : Bool :=
  match o.guard with
  | none => true
  | some (j, want) => match (ops[j]?).bind (·.dst) with
    | some t => match env.get t with
      | some (.bool b) => b == want
      | _ => false
    | none => false

/-- a call's answer: the value, the memory, and whether all that was there is as it was -/
abbrev CallFn := FuncId → List Value → AHeap → Option (Value × AHeap)

/-- the callee of an operation, with its arguments -/
def calleeOf (P : Program) (ρ : Operand → Value) : Op → Option (FuncId × List Value)
  | .call { callee := .value f, args, .. } => match ρ f with
    | .func (.func g) first captured => match P.funcs[g]? with
      | some fn => cond (fn.body.isSome && fn.name != "runtime.NumGoroutine") (some (g, first.toList ++ (args.toList.map ρ) ++ captured.toList)) none
      | none => none
    | _ => none
  | _ => none
def aStep (P : Program) (call : CallFn) (ρ : Operand → Value) (o : Oper) (fid : Nat) (H : AHeap) : Option (Value × AHeap) :=
  match o.op with
  | .call { callee := .value _, .. } => match calleeOf P ρ o.op with
    | some (g, args) => call g args H
    | none => none
  | _ => aSimple P ρ o fid H

/-! ### what an operation of a region that draws its order looks at and turns -/
inductive Class where
  | pure
  | fresh (i : Nat)
  | load (i : Nat)
  | other (quiet : Bool) (w : List Nat)
def classOf (ρ : Operand → Value) (fid : Nat) (H H' : AHeap) : Op → Class
  | .move _ | .assign _ | .pick .. | .build .. | .nilCheck _ | .field .. | .extract .. | .index .. | .makeFunc .. | .makeInterface .. | .fieldAddr .. | .indexAddr .. | .binOp .. | .unOp .. => .pure
  | .alloc _ | .box .. | .buildSlice .. | .makeMap .. | .makeSlice .. => .fresh fid
  | .load _ x => match ρ x with
    | .pointer (some a) => .load a.block
    | _ => .other false []
  | .slice _ x _ _ _ => match ρ x with
    | .string _ => .pure
    | _ => .other true []
  | .convert _ _ x => match ρ x with
    | .slice _ _ _ => .other true []
    | _ => .pure
  | .lookup .. => .other true []
  | .call { callee := .builtin .len, args, .. } => match args.toList with
    | [x] => match ρ x with
      | .slice _ _ _ | .string _ => .pure
      | _ => .other true []
    | _ => .other true []
  | _ => .other (Nat.beq H.next H'.next && H'.log.isEmpty) H'.log
def clash : Class → Class → Bool
  | .other q _, .other r _ => !(q && r)
  | .load i, .other _ w | .other _ w, .load i | .fresh i, .other _ w | .other _ w, .fresh i => w.any (Nat.beq i)
  | _, _ => false

def aOps (P : Program) (gs : List Nat) (call : CallFn) (all : List Oper) (nt base : Nat) : List Oper → Nat → Tr Value → AHeap → Option (Tr Value × AHeap)
  | [], _, env, H => some (env, H)
  | o :: os, k, env, H => cond (dstOk nt o.dst && constsOk gs o) (cond (wantedA o all env) (match aStep P call (aEval env) o (base + k) H with
      | some (v, H') => aOps P gs call all nt base os (k + 1) (putE env o.dst v) H'
      | none => none) (aOps P gs call all nt base os (k + 1) (putE env o.dst undef) H)) none

/-- the temporaries that an operation names -/
def namesOf (ops : List Oper) (o : Oper) : List Tmp :=
  o.dst.toList ++ (o.op.operands.toList.filterMap fun | .tmp t => some t | _ => none) ++ (match o.guard with
    | some (j, _) => ((ops[j]?).bind (·.dst)).toList
    | none => [])
/-- whoever writes a temporary is in order with whoever names it; what is ahead by an edge is ahead in the text -/
def orderOk (ops : List Oper) (bf : List Nat) : Bool :=
  ops.zipIdx.all fun (o, k) => o.after.toList.all (fun e => !Region.binds .any e || Nat.blt e.on k) && (namesOf ops o).all fun t =>
    ops.zipIdx.all fun (p, j) => !(p.dst == some t) || (Nat.beq j k || (cond (Nat.blt j k) (((bf[k]?).getD 0).testBit j) (((bf[j]?).getD 0).testBit k)))
/-- the same, where the order is drawn: each operation's class is held against those ahead of it that need not be ahead -/
def aDraw (P : Program) (gs : List Nat) (call : CallFn) (all : List Oper) (bf : List Nat) (nt base : Nat) : List Oper → Nat → Tr Value → AHeap → List (Nat × Class) → Option (Tr Value × AHeap)
  | [], _, env, H, _ => some (env, H)
  | o :: os, k, env, H, cs => cond (dstOk nt o.dst && constsOk gs o) (cond (wantedA o all env) (match aStep P call (aEval env) o (base + k) { H with log := [] } with
      | some (v, H') =>
        let c := classOf (aEval env) (base + k) H H' o.op
        let b := (bf[k]?).getD 0
        cond (cs.any fun p => !b.testBit p.1 && clash p.2 c) none (aDraw P gs call all bf nt base os (k + 1) (putE env o.dst v) { H' with log := H'.log.foldl (fun l i => noteId i l) H.log } ((k, c) :: cs))
      | none => none) (aDraw P gs call all bf nt base os (k + 1) (putE env o.dst undef) H cs)) none

/-! ### code -/
def loopN {α : Type} (body : Tr Value → AHeap → Option (α × Tr Value × AHeap)) (isNormal : α → Bool) : Nat → Tr Value → AHeap → Option (α × Tr Value × AHeap)
  | 0, _, _ => none
  | n + 1, env, H => match body env H with
    | some (e, env', H') => cond (isNormal e) (loopN body isNormal n env' H') (some (e, env', H'))
    | none => none
/-- how a piece of code is left: on, out of a block, back -/
inductive Way where
  | on
  | out (id : Nat)
  | back
def Way.isOn : Way → Bool
  | .on => true
  | _ => false

def aCode (P : Program) (gs : List Nat) (call : CallFn) (nt fuel : Nat) : Code → Tr Value → AHeap → Option (Way × Tr Value × AHeap)
  | .skip, env, H => some (.on, env, H)
  | .region _ ops draw, env, H =>
    (cond draw (cond (orderOk ops.toList (Region.before ops).toList) (aDraw P gs call ops.toList (Region.before ops).toList nt H.next ops.toList 0 env { H with next := H.next + ops.toList.length } []) none) (aOps P gs call ops.toList nt H.next ops.toList 0 env { H with next := H.next + ops.toList.length })).map fun (env', H') => (.on, env', H')
  | .seq a b, env, H => match aCode P gs call nt fuel a env H with
    | some (.on, env', H') => aCode P gs call nt fuel b env' H'
    | r => r
  | .cond c a b, env, H => match aEval env c with
    | .bool t => cond t (aCode P gs call nt fuel a env H) (aCode P gs call nt fuel b env H)
    | _ => none
  | .block id c, env, H => match aCode P gs call nt fuel c env H with
    | some (.out i, env', H') => cond (Nat.beq i id) (some (.on, env', H')) (some (.out i, env', H'))
    | r => r
  | .loop c, env, H => loopN (aCode P gs call nt fuel c) Way.isOn fuel env H
  | .exit id, env, H => some (.out id, env, H)
  | .label _, env, H => some (.on, env, H)
  | .ret, env, H => some (.back, env, H)
  | .scope c, env, H => match aCode P gs call nt fuel c env H with
    | some (.on, env', H') => some (.on, env', H')
    | some (.back, env', H') => some (.back, env', H')
    | _ => none
  | _, _, _ => none

def argsEnv : List Value → Nat → Tr Value → Tr Value
  | [], _, env => env
  | v :: vs, k, env => argsEnv vs (k + 1) (env.put k (some v))
def aResults (P : Program) (env : Tr Value) (H : AHeap) : List ResultVar → Option (List Value)
  | [] => some []
  | .tmp t :: rs => match aResults P env H rs with
    | some vs => some ((env.get t).getD undef :: vs)
    | none => none
  | .cell a t :: rs => match aLoad P t ((env.get a).getD undef) H, aResults P env H rs with
    | some v, some vs => some (v :: vs)
    | _, _ => none
def oneOf : List Value → Value
  | [v] => v
  | vs => .tuple vs.toArray

/-- what a call leaves: where nothing was turned and the answer has no new block, the memory is as it was -/
def leave (H : AHeap) (v : Value) (H' : AHeap) : Value × AHeap :=
  cond (H'.log.all (fun i => Nat.ble H.next i) && lowV H.next v) (v, H) (v, { H' with log := (H'.log.filter fun i => Nat.blt i H.next).foldl (fun l i => noteId i l) H.log })

def aCall (P : Program) (gs : List Nat) : Nat → CallFn
  | 0 => fun _ _ _ => none
  | n + 1 => fun f args H => match P.funcs[f]? with
    | some fn => match fn.body with
      | some c => cond (Nat.ble args.length fn.ntmps) (match aCode P gs (aCall P gs n) fn.ntmps n c (argsEnv args 0 .nil) { H with log := [] } with
        | some (.on, env, H') | some (.back, env, H') => (aResults P env H' fn.results.toList).map fun vs => leave H (oneOf vs) H'
        | _ => none) none
      | none => none
    | none => none
end Go.Proofs.Ytmflapajjghpmaa
