/- Running the abstract machine on values and memories that are not known whole: values that are put together, rests. No program in sight. -/
import Derived.Test.YtmflapajjghpmaaAmSym5
namespace Go.Proofs.Ytmflapajjghpmaa
open Go.RowKit

/-- a value put together of given parts -/
def buildV (P : Program) (t : TypeId) (ps : List (Nat × Value)) : Option Value :=
  aBuild P (fun | .const v => v | _ => undef) t (ps.map fun p => (p.1, Operand.const p.2)).toArray
theorem aBuild_eq (P : Program) (ρ : Operand → Value) (t : TypeId) (ps : Array (Nat × Operand)) : aBuild P ρ t ps = buildV P t (ps.toList.map fun p => (p.1, ρ p.2)) := by
  have h : (((ps.toList.map fun p => (p.1, ρ p.2)).map fun p => (p.1, Operand.const p.2)).toArray.map fun (p : Nat × Operand) => match p with | (i, x) => (i, (fun | Operand.const v => v | _ => undef : Operand → Value) x)) = ps.map fun (p : Nat × Operand) => match p with | (i, x) => (i, ρ x) := by
    apply Array.ext'
    simp
  unfold buildV aBuild
  rw [h]
section
variable {P : Program} {call : CallFn} {ρ : Operand → Value} {fid : Nat} {H : AHeap} {R : Value × AHeap → Prop} {d : Option Tmp} {ty t : TypeId} {ps : String} {af : Array Edge} {g : Option (Nat × Bool)} {cx cy : Bool} {k : IntKind} {a b : Int}
theorem st_buildV {parts : Array (Nat × Operand)} : Got (aStep P call ρ ⟨d, .build t parts, ty, ps, af, g⟩ fid H) R = Got (buildV P t (parts.toList.map fun p => (p.1, ρ p.2))) fun v => R (v, H) := by rw [st_build, aBuild_eq]
theorem b_rem (hb : b ≠ 0) : binV P .rem t cx cy (.int k a) (.int k b) = some (.int k (a.tmod b)) := by cases cx <;> cases cy <;> simp [binV, aPure, opnd, val2, execOp, eqGuard, binOp, Op.intDiv, hb, qval, notSelect, flat, flat2, flat1, Op.operands] <;> rfl
theorem b_quo (hb : b ≠ 0) : binV P .quo t cx cy (.int k a) (.int k b) = some (.int k (k.wrap (a.tdiv b))) := by cases cx <;> cases cy <;> simp [binV, aPure, opnd, val2, execOp, eqGuard, binOp, Op.intDiv, hb, qval, notSelect, flat, flat2, flat1, Op.operands] <;> rfl
end
end Go.Proofs.Ytmflapajjghpmaa
