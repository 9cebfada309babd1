/- min of two numbers, on the machine. No program in sight. -/
import Derived.Test.YteomehedmfemiaaAmC
set_option linter.unusedSimpArgs false
set_option linter.unusedVariables false
namespace Go.Proofs.Yteomehedmfemiaa
open Go.RowKit
theorem min_pure {P : Program} {ρ : Operand → Value} {d : Option Tmp} {t u ty : TypeId} {ps : String} {af : Array Edge} {g : Option (Nat × Bool)} {x y : Operand} {a b : Int} (hx : ρ x = .int .i64 a) (hy : ρ y = .int .i64 b) :
    aPure P ρ ⟨d, .call { callee := .builtin .min, args := #[x, y], argTypes := #[t, u] }, ty, ps, af, g⟩ = some (.int .i64 (if b < a then b else a)) := by
  by_cases h : b < a <;>
    simp [aPure, notSelect, Op.operands, Call.operands, flat, flat2, flat1, execOp, resolve, invoke, builtin, Builtin.min_, Builtin.min2, hx, hy, qval_bind, qval_pure, q_map, h]
theorem st_min2 {P : Program} {call : CallFn} {ρ : Operand → Value} {fid : Nat} {H : AHeap} {R : Value × AHeap → Prop} {d : Option Tmp} {t u ty : TypeId} {ps : String} {af : Array Edge} {g : Option (Nat × Bool)} {x y : Operand} {a b : Int} (hx : ρ x = .int .i64 a) (hy : ρ y = .int .i64 b)
    (h : R (.int .i64 (if b < a then b else a), H)) : Got (aStep P call ρ ⟨d, .call { callee := .builtin .min, args := #[x, y], argTypes := #[t, u] }, ty, ps, af, g⟩ fid H) R := by
  refine ⟨_, ?_, h⟩
  simp only [aStep, aSimple]
  rw [min_pure hx hy]
  rfl
end Go.Proofs.Yteomehedmfemiaa
