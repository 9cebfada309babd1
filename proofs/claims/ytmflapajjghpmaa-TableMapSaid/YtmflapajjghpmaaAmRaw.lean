/- The abstract machine without the checks that ask nothing of values: these are made ahead, for a whole function. -/
import Derived.Test.YtmflapajjghpmaaAmOrc
namespace Go.Proofs.Ytmflapajjghpmaa
open Go.RowKit

def rOps (P : Program) (call : CallFn) (all : List Oper) (base : Nat) : List Oper → Nat → Tr Value → AHeap → Option (Tr Value × AHeap)
  | [], _, env, H => some (env, H)
  | o :: os, k, env, H => cond (wantedA o all env) (match aStep P call (aEval env) o (base + k) H with
      | some (v, H') => rOps P call all base os (k + 1) (putE env o.dst v) H'
      | none => none) (rOps P call all base os (k + 1) (putE env o.dst undef) H)
def rDraw (P : Program) (call : CallFn) (all : List Oper) (bf : List Nat) (base : Nat) : List Oper → Nat → Tr Value → AHeap → List (Nat × Class) → Option (Tr Value × AHeap)
  | [], _, env, H, _ => some (env, H)
  | o :: os, k, env, H, cs => cond (wantedA o all env) (match aStep P call (aEval env) o (base + k) { H with log := [] } with
      | some (v, H') =>
        let c := classOf (aEval env) (base + k) H H' o.op
        let b := (bf[k]?).getD 0
        cond (cs.any fun p => !b.testBit p.1 && clash p.2 c) none (rDraw P call all bf base os (k + 1) (putE env o.dst v) { H' with log := H'.log.foldl (fun l i => noteId i l) H.log } ((k, c) :: cs))
      | none => none) (rDraw P call all bf base os (k + 1) (putE env o.dst undef) H cs)

def rCode (P : Program) (call : CallFn) (fuel : Nat) : Code → Tr Value → AHeap → Option (Way × Tr Value × AHeap)
  | .skip, env, H => some (.on, env, H)
  | .region _ ops draw, env, H =>
    (cond draw (rDraw P call ops.toList (Region.before ops).toList H.next ops.toList 0 env { H with next := H.next + ops.toList.length } []) (rOps P call ops.toList H.next ops.toList 0 env { H with next := H.next + ops.toList.length })).map fun (env', H') => (.on, env', H')
  | .seq a b, env, H => match rCode P call fuel a env H with
    | some (.on, env', H') => rCode P call fuel b env' H'
    | r => r
  | .cond c a b, env, H => match aEval env c with
    | .bool t => cond t (rCode P call fuel a env H) (rCode P call fuel b env H)
    | _ => none
  | .block id c, env, H => match rCode P call fuel c env H with
    | some (.out i, env', H') => cond (Nat.beq i id) (some (.on, env', H')) (some (.out i, env', H'))
    | r => r
  | .loop c, env, H => loopN (rCode P call fuel c) Way.isOn fuel env H
  | .exit id, env, H => some (.out id, env, H)
  | .label _, env, H => some (.on, env, H)
  | .ret, env, H => some (.back, env, H)
  | .scope c, env, H => match rCode P call fuel c env H with
    | some (.on, env', H') => some (.on, env', H')
    | some (.back, env', H') => some (.back, env', H')
    | _ => none
  | _, _, _ => none

def chkOps (gs : List Nat) (nt : Nat) (ops : List Oper) : Bool := ops.all fun o => dstOk nt o.dst && constsOk gs o
def chk (gs : List Nat) (nt : Nat) : Code → Bool
  | .region _ ops draw => chkOps gs nt ops.toList && (!draw || orderOk ops.toList (Region.before ops).toList)
  | .seq a b | .cond _ a b => chk gs nt a && chk gs nt b
  | .block _ c | .loop c | .scope c => chk gs nt c
  | _ => true

theorem rOps_eq {P : Program} {gs : List Nat} {call : CallFn} {all : List Oper} {nt base : Nat} : ∀ (os : List Oper) (k : Nat) (env : Tr Value) (H : AHeap), chkOps gs nt os = true →
    aOps P gs call all nt base os k env H = rOps P call all base os k env H
  | [], _, _, _, _ => rfl
  | o :: os, k, env, H, h => by
    unfold chkOps at h
    rw [List.all_cons, Bool.and_eq_true] at h
    simp only [aOps, rOps, h.1, cond]
    cases wantedA o all env with
    | false => exact rOps_eq os _ _ _ h.2
    | true => cases aStep P call (aEval env) o (base + k) H with
      | none => rfl
      | some r => exact rOps_eq os _ _ _ h.2
theorem rDraw_eq {P : Program} {gs : List Nat} {call : CallFn} {all : List Oper} {bf : List Nat} {nt base : Nat} : ∀ (os : List Oper) (k : Nat) (env : Tr Value) (H : AHeap) (cs : List (Nat × Class)), chkOps gs nt os = true →
    aDraw P gs call all bf nt base os k env H cs = rDraw P call all bf base os k env H cs
  | [], _, _, _, _, _ => rfl
  | o :: os, k, env, H, cs, h => by
    unfold chkOps at h
    rw [List.all_cons, Bool.and_eq_true] at h
    simp only [aDraw, rDraw, h.1, cond]
    cases wantedA o all env with
    | false => exact rDraw_eq os _ _ _ _ h.2
    | true => cases aStep P call (aEval env) o (base + k) { H with log := [] } with
      | none => rfl
      | some r =>
        simp only
        cases cs.any fun p => !((bf[k]?).getD 0).testBit p.1 && clash p.2 (classOf (aEval env) (base + k) H r.2 o.op) with
        | true => rfl
        | false => exact rDraw_eq os _ _ _ _ h.2

theorem rCode_eq {P : Program} {gs : List Nat} {call : CallFn} {nt fuel : Nat} : ∀ (c : Code) (env : Tr Value) (H : AHeap), chk gs nt c = true → aCode P gs call nt fuel c env H = rCode P call fuel c env H
  | .skip, env, H, h => rfl
  | .exit _, env, H, h => rfl
  | .label _, env, H, h => rfl
  | .ret, env, H, h => rfl
  | .region _ ops draw, env, H, h => by
    simp only [chk, Bool.and_eq_true, Bool.or_eq_true, Bool.not_eq_true'] at h
    simp only [aCode, rCode]
    cases draw with
    | false => simp only [cond]; rw [rOps_eq _ _ _ _ h.1]
    | true =>
      have ho : orderOk ops.toList (Region.before ops).toList = true := h.2.resolve_left (fun e => by cases e)
      simp only [cond, ho]
      rw [rDraw_eq _ _ _ _ _ h.1]
  | .seq a b, env, H, h => by
    simp only [chk, Bool.and_eq_true] at h
    simp only [aCode, rCode]
    rw [rCode_eq a env H h.1]
    cases rCode P call fuel a env H with
    | none => rfl
    | some r =>
      obtain ⟨w, e, h1⟩ := r
      cases w with
      | on => exact rCode_eq b e h1 h.2
      | _ => rfl
  | .cond c a b, env, H, h => by
    simp only [chk, Bool.and_eq_true] at h
    simp only [aCode, rCode]
    rw [rCode_eq a env H h.1, rCode_eq b env H h.2]
    rfl
  | .block id c, env, H, h => by
    simp only [chk] at h
    simp only [aCode, rCode]
    rw [rCode_eq c env H h]
    rfl
  | .loop c, env, H, h => by
    simp only [chk] at h
    simp only [aCode, rCode]
    rw [show aCode P gs call nt fuel c = rCode P call fuel c from funext fun e => funext fun h1 => rCode_eq c e h1 h]
  | .scope c, env, H, h => by
    simp only [chk] at h
    simp only [aCode, rCode]
    rw [rCode_eq c env H h]
    rfl
  | .rangeFunc .., env, H, h => rfl
  | .goto _, env, H, h => rfl
  | .refuse _, env, H, h => rfl

/-- a function's code may be run without the checks -/
def chkFn (P : Program) (gs : List Nat) (f : FuncId) : Bool := match P.funcs[f]? with
  | some fn => match fn.body with
    | some c => chk gs fn.ntmps c
    | none => false
  | none => false
def fnOut (P : Program) (rs : List ResultVar) (H : AHeap) : Option (Way × Tr Value × AHeap) → Option (Value × AHeap)
  | some (.on, env, H') | some (.back, env, H') => (aResults P env H' rs).map fun vs => leave H (oneOf vs) H'
  | _ => none
theorem oCall_eq {P : Program} {gs : List Nat} {O : Helps} {f : FuncId} {fn : Func} {c : Code} (ho : O f = none) (hf : P.funcs[f]? = some fn) (hc : fn.body = some c) (hk : chkFn P gs f = true) (n : Nat) (args : List Value) (hl : Nat.ble args.length fn.ntmps = true) (H : AHeap) :
    oCall P gs O (n + 1) f args H = fnOut P fn.results.toList H (rCode P (oCall P gs O n) n c (argsEnv args 0 .nil) { H with log := [] }) := by
  unfold chkFn at hk
  simp only [hf, hc] at hk
  simp only [oCall, ho, stepCall, hf, hc, hl, cond]
  rw [rCode_eq c _ _ hk]
  rfl
end Go.Proofs.Ytmflapajjghpmaa
