/- PoolNumbers: the first steps, as plain data. -/
import Derived.Test.YtmflapajjghpmaaPoolPlain
namespace Go.Proofs.Ytmflapajjghpmaa
theorem f1 : takeP ⟨1073741824, 0, 0, [], []⟩ (-1) = (⟨1073741824, 0, 0, [], []⟩, 0, 2) := by
  unfold takeP; rw [if_pos (by decide)]
theorem f2 : takeP ⟨1073741824, 0, 0, [], []⟩ 1073741825 = (⟨1073741824, 0, 0, [], []⟩, 0, 5) := by
  unfold takeP; rw [if_neg (by decide), if_pos (by decide)]
theorem hasnone (id : Int) : hasP ⟨1073741824, 0, 0, [], []⟩ id = false := by
  unfold hasP
  have : (decide (1 ≤ id) && decide (id ≤ (([] : List Int).length : Int))) = false := by
    rw [Bool.and_eq_false_iff]
    by_cases h : 1 ≤ id
    · right; exact decide_eq_false (by simp; omega)
    · left; exact decide_eq_false h
  dsimp only
  rw [this]; rfl
theorem f3 (id : Int) : giveP ⟨1073741824, 0, 0, [], []⟩ id = (⟨1073741824, 0, 0, [], []⟩, 2) := by
  unfold giveP; rw [hasnone]; rfl
theorem f4 (id s : Int) : resizeP ⟨1073741824, 0, 0, [], []⟩ id s = (⟨1073741824, 0, 0, [], []⟩, 2) := by
  unfold resizeP; rw [if_pos (.inl (hasnone id))]
theorem has1 : hasP ⟨1073741824, 1073741824, 1, [1073741824], []⟩ 1 = true := by
  unfold hasP; dsimp only; decide
theorem f5 : resizeP ⟨1073741824, 1073741824, 1, [1073741824], []⟩ 1 (-1) = (⟨1073741824, 1073741824, 1, [1073741824], []⟩, 2) := by
  unfold resizeP; rw [if_pos (.inr (by decide))]
theorem f6 : resizeP ⟨1073741824, 1073741824, 1, [1073741824], []⟩ 1 1073741825 = (⟨1073741824, 1073741824, 1, [1073741824], []⟩, 5) := by
  unfold resizeP; rw [if_neg (by rw [has1]; decide), if_pos (by decide)]
theorem f7 : takeP ⟨1073741824, 1073741824, 1, [1073741824], []⟩ 1 = (⟨1073741824, 1073741824, 1, [1073741824], []⟩, 0, 5) := by
  unfold takeP; rw [if_neg (by decide), if_pos (by decide)]
theorem f8 : resizeP ⟨1073741824, 1073741824, 1, [1073741824], []⟩ 1 0 = (⟨1073741824, 0, 1, [0], []⟩, 0) := by
  unfold resizeP; rw [if_neg (by rw [has1]; decide), if_neg (by decide)]; rfl
/-- all of it, of states that are not looked into -/
theorem first_states : ∃ A B : PS, A = ⟨1073741824, 0, 0, [], []⟩ ∧ takeP A (-1) = (A, 0, 2) ∧ takeP A 1073741825 = (A, 0, 5) ∧ giveP A 9 = (A, 2) ∧ giveP A 0 = (A, 2) ∧ resizeP A 1 1 = (A, 2) ∧ takeP A 1073741824 = (B, 1, 0) ∧
    resizeP B 1 (-1) = (B, 2) ∧ resizeP B 1 1073741825 = (B, 5) ∧ takeP B 1 = (B, 0, 5) ∧ resizeP B 1 0 = (⟨1073741824, 0, 1, [0], []⟩, 0) :=
  ⟨⟨1073741824, 0, 0, [], []⟩, ⟨1073741824, 1073741824, 1, [1073741824], []⟩, rfl, f1, f2, f3 9, f3 0, f4 1 1, by
      unfold takeP
      rw [if_neg (by decide), if_neg (by decide), if_pos (by rfl)]; rfl, f5, f6, f7, f8⟩
end Go.Proofs.Ytmflapajjghpmaa
