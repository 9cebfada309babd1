/- Table: the types' facts, and when two keys are one. -/
import Derived.Test.YtdfadipfhcikdaaGreatDoorClr
namespace Go.Proofs.YtdfadipfhcikdaaGreatDoor
open Go.RowKit
set_option linter.unusedVariables false
set_option linter.unusedSimpArgs false


/-- a value of the language: its kind and number -/
abbrev VV := Int × Int
def vv (x : VV) : Value := .agg #[.int .u8 x.1, .int .i64 x.2]

theorem vv_eq (d : Nat) (x y : VV) : qval Tryz.prog (Op.equalIn (d + 2) 29 (vv x) (vv y)) = some (decide (x = y)) := by
  obtain ⟨a, b⟩ := x
  obtain ⟨c, e⟩ := y
  rw [vv, vv, q_struct (d + 1) _ _ _ _ Tryz.underlying29 (by kernel_rfl)]
  have p1 : ∀ x y : Int, qval Tryz.prog (part 27 #[Value.int .u8 x, Value.int .i64 y] 0) = some (.int .u8 x) := fun x y => by kernel_rfl
  have p2 : ∀ x y : Int, qval Tryz.prog (part 2 #[Value.int .u8 x, Value.int .i64 y] 1) = some (.int .i64 y) := fun x y => by kernel_rfl
  simp only [qFields, ne_eq, p1, p2, Option.bind_some, q_int d _ _ _ _ _ Tryz.underlying27, q_int d _ _ _ _ _ Tryz.underlying2]
  by_cases h1 : a = c <;> by_cases h2 : b = e <;> simp [h1, h2, Prod.ext_iff]
theorem key_vv : KeyBy Tryz.prog 29 vv where
  chk b x := by obtain ⟨a, c⟩ := x; kernel_rfl
  flat x := rfl
  bits x := by obtain ⟨a, c⟩ := x; simp [vv, Instr.sameBits]
  desc := ⟨_, Tryz.underlying29, .inr ⟨fun x y => rfl, fun x y => vv_eq 9998 x y⟩⟩
end Go.Proofs.YtdfadipfhcikdaaGreatDoor

namespace Go.Proofs.YtdfadipfhcikdaaGreatDoor
open Go.RowKit
set_option linter.unusedVariables false
set_option linter.unusedSimpArgs false
set_option maxRecDepth 100000

theorem vv_neqV {cx cy : Bool} (a b c d : Int) : binV Tryz.prog .neq 29 cx cy (.agg #[.int .u8 a, .int .i64 b]) (.agg #[.int .u8 c, .int .i64 d]) = some (.bool (!decide (((a, b) : VV) = (c, d)))) := by
  refine binV_of (fun _ _ => by kernel_rfl) ?_ rfl rfl rfl
  show qval Tryz.prog (do pure (Value.bool (!(← Op.equalIn (9998 + 2) 29 (vv (a, b)) (vv (c, d)))))) = _
  simp only [qval_bind, vv_eq, Option.bind_some]; rfl
theorem vv_eqlV {cx cy : Bool} (a b c d : Int) : binV Tryz.prog .eql 29 cx cy (.agg #[.int .u8 a, .int .i64 b]) (.agg #[.int .u8 c, .int .i64 d]) = some (.bool (decide (((a, b) : VV) = (c, d)))) := by
  refine binV_of (fun _ _ => by kernel_rfl) ?_ rfl rfl rfl
  show qval Tryz.prog (do pure (Value.bool (← Op.equalIn (9998 + 2) 29 (vv (a, b)) (vv (c, d))))) = _
  simp only [qval_bind, vv_eq, Option.bind_some]; rfl
theorem vv_ne_same {cx cy : Bool} (a b : Int) : binV Tryz.prog .neq 29 cx cy (.agg #[.int .u8 a, .int .i64 b]) (.agg #[.int .u8 a, .int .i64 b]) = some (.bool false) := by
  rw [vv_neqV, decide_eq_true rfl]; rfl
end Go.Proofs.YtdfadipfhcikdaaGreatDoor

namespace Go.Proofs.YtdfadipfhcikdaaGreatDoor
open Go.RowKit
set_option linter.unusedSimpArgs false
set_option linter.unusedVariables false
set_option maxRecDepth 100000

/-- a table's places, as cells -/
def cellsOf (l : List (VV × VV)) : List Value := l.flatMap fun p => [.int .u8 p.1.1, .int .i64 p.1.2, .int .u8 p.2.1, .int .i64 p.2.2]
/-- where each key is -/
def kvFrom : Nat → List (VV × VV) → List (VV × Value)
  | _, [] => []
  | i, p :: l => (p.1, .int .i64 (.ofNat i)) :: kvFrom (i + 1) l
structure TabIn (o : Tr AObj) (nx i m : Nat) (a : Option Nat) (l : List (VV × VV)) : Prop where
  lt : i < nx
  ltm : m < nx
  ne : m ≠ i
  row : ∃ z, o.get i = some (.row [.slice (a.map fun j => ⟨j, 0, none⟩) l.length 0, .map (some m)] 98 z true)
  ents : ∃ es c, o.get m = some (.map es c) ∧ MapIs vv es (kvFrom 0 l)
  cells : (a = none ∧ l = []) ∨ ∃ j rest, a = some j ∧ j < nx ∧ j ≠ i ∧ j ≠ m ∧ o.get j = some (.row (cellsOf l ++ rest) 102 4 true)
  nodup : (l.map Prod.fst).Nodup
/-- a block of the table's -/
def Mine (i m : Nat) (a : Option Nat) (b : Nat) : Prop := b = i ∨ b = m ∨ a = some b
theorem TabIn.keep {o o' : Tr AObj} {nx nx' i m : Nat} {a : Option Nat} {l : List (VV × VV)} (h : TabIn o nx i m a l) (hn : nx ≤ nx') (hk : ∀ b, Mine i m a b → o'.get b = o.get b) : TabIn o' nx' i m a l := by
  obtain ⟨z, hr⟩ := h.row
  obtain ⟨es, c, he, hm⟩ := h.ents
  refine ⟨Nat.lt_of_lt_of_le h.lt hn, Nat.lt_of_lt_of_le h.ltm hn, h.ne, ⟨z, (hk i (.inl rfl)).trans hr⟩, ⟨es, c, (hk m (.inr (.inl rfl))).trans he, hm⟩, ?_, h.nodup⟩
  rcases h.cells with h1 | ⟨j, rest, rfl, h1, h2, h3, h4⟩
  · exact .inl h1
  · exact .inr ⟨j, rest, rfl, Nat.lt_of_lt_of_le h1 hn, h2, h3, (hk j (.inr (.inr rfl))).trans h4⟩
theorem TabIn.mine_lt {o : Tr AObj} {nx i m : Nat} {a : Option Nat} {l : List (VV × VV)} (h : TabIn o nx i m a l) {b : Nat} (hb : Mine i m a b) : b < nx := by
  rcases hb with rfl | rfl | hb
  · exact h.lt
  · exact h.ltm
  · rcases h.cells with ⟨rfl, _⟩ | ⟨j, rest, rfl, h1, _⟩
    · cases hb
    · cases hb; exact h1
/-- new things beside it -/
theorem TabIn.more {o o' : Tr AObj} {nx nx' i m : Nat} {a : Option Nat} {l : List (VV × VV)} (h : TabIn o nx i m a l) (hn : nx ≤ nx') (hk : ∀ b, b < nx → o'.get b = o.get b) : TabIn o' nx' i m a l := h.keep hn fun b hb => hk b (h.mine_lt hb)

end Go.Proofs.YtdfadipfhcikdaaGreatDoor
