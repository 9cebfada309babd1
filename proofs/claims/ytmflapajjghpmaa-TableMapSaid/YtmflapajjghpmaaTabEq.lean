/- Table: the types' facts, and when two keys are one. -/
import Derived.Test.YtmflapajjghpmaaProg
import Derived.Test.YtmflapajjghpmaaAmStep
import Derived.Test.YtmflapajjghpmaaFacts
import Derived.KernelRfl
namespace Go.Proofs.Ytmflapajjghpmaa
open Go.RowKit
set_option linter.unusedSimpArgs false

/-- functions for which a help may be given: the examples of the chapters -/
def helped : List Nat := [21, 28, 48, 66]
def Clear (O : Helps) : Prop := ∀ f, f ∉ helped → O f = none

/-- a value of the language: its kind and number -/
abbrev VV := Int × Int
def vv (x : VV) : Value := .agg #[.int .u8 x.1, .int .i64 x.2]

theorem vv_eq (d : Nat) (x y : VV) : qval Try.prog (Op.equalIn (d + 2) 40 (vv x) (vv y)) = some (decide (x = y)) := by
  obtain ⟨a, b⟩ := x
  obtain ⟨c, e⟩ := y
  rw [vv, vv, q_struct (d + 1) _ _ _ _ Try.underlying40 (by kernel_rfl)]
  have p1 : ∀ x y : Int, qval Try.prog (part 38 #[Value.int .u8 x, Value.int .i64 y] 0) = some (.int .u8 x) := fun x y => by kernel_rfl
  have p2 : ∀ x y : Int, qval Try.prog (part 2 #[Value.int .u8 x, Value.int .i64 y] 1) = some (.int .i64 y) := fun x y => by kernel_rfl
  simp only [qFields, ne_eq, p1, p2, Option.bind_some, q_int d _ _ _ _ _ Try.underlying38, q_int d _ _ _ _ _ Try.underlying2]
  by_cases h1 : a = c <;> by_cases h2 : b = e <;> simp [h1, h2, Prod.ext_iff]
theorem key_vv : KeyBy Try.prog 40 vv where
  chk b x := by obtain ⟨a, c⟩ := x; kernel_rfl
  flat x := rfl
  bits x := by obtain ⟨a, c⟩ := x; simp [vv, Instr.sameBits]
  desc := ⟨_, Try.underlying40, .inr ⟨fun x y => rfl, fun x y => vv_eq 9998 x y⟩⟩
end Go.Proofs.Ytmflapajjghpmaa
