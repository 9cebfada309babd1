/- Texts: the document's Part, plain. -/
import Derived.Test.YtpncjpgjmpemiaaDoorTextR2
import Derived.Test.YtpncjpgjmpemiaaDoorTextUnq
namespace Go.Proofs.YtpncjpgjmpemiaaDoor
open Go.RowKit
set_option linter.unusedSimpArgs false
set_option linter.unusedVariables false

def partQ (q : UInt8) : List UInt8 → List UInt8 × Nat
  | [] => ([], 0)
  | c :: r => if c = q ∨ c = 10 ∨ c = 13 then ([], 0) else if c = 92 then (if (escP r).2 = 0 then ([], 0) else ((escP r).1, (escP r).2 + 1)) else ([c], 1)
theorem partQ_len (q : UInt8) : ∀ l : List UInt8, (partQ q l).2 ≤ l.length ∧ (partQ q l).1.length ≤ 6 * (partQ q l).2
  | [] => ⟨Nat.zero_le _, Nat.zero_le _⟩
  | c :: r => by
    have := escP_len r
    rw [partQ]
    split
    · exact ⟨Nat.zero_le _, Nat.zero_le _⟩
    · split
      · split
        · exact ⟨Nat.zero_le _, Nat.zero_le _⟩
        · exact ⟨by show (escP r).2 + 1 ≤ r.length + 1; omega, by show (escP r).1.length ≤ 6 * ((escP r).2 + 1); omega⟩
      · exact ⟨by show 1 ≤ r.length + 1; omega, by show 1 ≤ 6; omega⟩
theorem unq_part (q : UInt8) (hq : q ≠ 92 ∧ q ≠ 10 ∧ q ≠ 13) (f : Nat) (out : List UInt8) : ∀ rest : List UInt8, unqF q (f + 1) rest out = if (partQ q rest).2 = 0 then (if rest = [q] then some out else none) else unqF q f (rest.drop (partQ q rest).2) (out ++ (partQ q rest).1)
  | [] => by
    show none = if ([] : List UInt8) = [q] then some out else none
    rw [if_neg (by simp)]
  | c :: r => by
    rw [unqF]
    by_cases h1 : c = q
    · have hA : c = q ∨ c = 10 ∨ c = 13 := .inl h1
      have hp : partQ q (c :: r) = ([], 0) := by rw [partQ, if_pos hA]
      rw [hp, if_pos h1]
      show _ = if (c :: r) = [q] then some out else none
      by_cases h2 : r = []
      · rw [if_pos h2, if_pos (by rw [h1, h2])]
      · rw [if_neg h2, if_neg (fun e => h2 (by injection e))]
    · rw [if_neg h1]
      have hne : ¬ (c :: r = [q]) := fun e => h1 (by injection e)
      by_cases h2 : c = 10 ∨ c = 13
      · have hp : partQ q (c :: r) = ([], 0) := by rw [partQ, if_pos (Or.inr h2)]
        rw [hp, if_pos h2]; exact (if_neg hne).symm
      · have hno : ¬ (c = q ∨ c = 10 ∨ c = 13) := fun h => h.elim h1 h2
        rw [if_neg h2]
        by_cases h3 : c = 92
        · rw [if_pos h3]
          by_cases h4 : (escP r).2 = 0
          · have hp : partQ q (c :: r) = ([], 0) := by rw [partQ, if_neg hno, if_pos h3, if_pos h4]
            rw [hp, if_pos h4]; exact (if_neg hne).symm
          · have hp : partQ q (c :: r) = ((escP r).1, (escP r).2 + 1) := by rw [partQ, if_neg hno, if_pos h3, if_neg h4]
            rw [hp, if_neg h4, if_neg (by simp)]
            rfl
        · have hp : partQ q (c :: r) = ([c], 1) := by rw [partQ, if_neg hno, if_neg h3]
          rw [hp, if_neg h3, if_neg (by simp)]
          rfl
end Go.Proofs.YtpncjpgjmpemiaaDoor
