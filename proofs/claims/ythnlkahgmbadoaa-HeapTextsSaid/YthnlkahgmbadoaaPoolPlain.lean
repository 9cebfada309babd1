/- A pool as plain data, and what its calls come to. No program in sight. -/
import Derived.Test.YthnlkahgmbadoaaHeapPlain
namespace Go.Proofs.Ythnlkahgmbadoaa
set_option linter.unusedSimpArgs false
set_option linter.unusedVariables false

structure PS where
  bound : Int
  used : Int
  count : Int
  sizes : List Int
  free : List Int

/-- has it that object? -/
def hasP (st : PS) (id : Int) : Bool := decide (1 ≤ id) && decide (id ≤ st.sizes.length) && decide (0 ≤ st.sizes.getD (id - 1).toNat 0)

def takeP (st : PS) (size : Int) : PS × Int × Int :=
  if size < 0 then (st, 0, 2)
  else if st.bound - st.used < size ∨ st.count = 65536 then (st, 0, 5)
  else if st.free.length = 0 then ({ st with used := st.used + size, count := st.count + 1, sizes := st.sizes ++ [size] }, st.sizes.length + 1, 0)
  else ({ st with used := st.used + size, count := st.count + 1, sizes := st.sizes.set (st.free.getD 0 0 - 1).toNat size, free := heapPop st.free }, st.free.getD 0 0, 0)

def giveP (st : PS) (id : Int) : PS × Int :=
  if hasP st id = true then ({ st with used := st.used - st.sizes.getD (id - 1).toNat 0, count := st.count - 1, sizes := st.sizes.set (id - 1).toNat (-1), free := heapPush st.free id }, 0) else (st, 2)

def resizeP (st : PS) (id size : Int) : PS × Int :=
  if hasP st id = false ∨ size < 0 then (st, 2)
  else if st.bound - st.used + st.sizes.getD (id - 1).toNat 0 < size then (st, 5)
  else ({ st with used := st.used + (size - st.sizes.getD (id - 1).toNat 0), sizes := st.sizes.set (id - 1).toNat size }, 0)

def sizeP (st : PS) (id : Int) : Int × Bool := if hasP st id = true then (st.sizes.getD (id - 1).toNat 0, true) else (0, false)

/-- the numbers of those that are there, from i + 1 on -/
def idsFrom : List Int → Nat → List Int
  | [], _ => []
  | s :: l, i => if 0 ≤ s then ((i : Int) + 1) :: idsFrom l (i + 1) else idsFrom l (i + 1)
def idsP (st : PS) : List Int := idsFrom st.sizes 0
/-- the free numbers -/
def freeFrom : List Int → Nat → List Int
  | [], _ => []
  | s :: l, i => if 0 ≤ s then freeFrom l (i + 1) else ((i : Int) + 1) :: freeFrom l (i + 1)
def usedOf : List Int → Int
  | [] => 0
  | s :: l => if 0 ≤ s then s + usedOf l else usedOf l

/-- what holds of every pool that New made -/
structure Good (st : PS) : Prop where
  b0 : 0 ≤ st.bound
  b1 : st.bound ≤ 1073741824
  used : st.used = usedOf st.sizes
  le : st.used ≤ st.bound
  count : st.count = (idsFrom st.sizes 0).length
  low : ∀ s ∈ st.sizes, -1 ≤ s
  free : st.free.Perm (freeFrom st.sizes 0)
  heap : IsHeap st.free
  len : st.sizes.length ≤ 65536

theorem ids_free_len : ∀ (l : List Int) (i : Nat), (idsFrom l i).length + (freeFrom l i).length = l.length
  | [], _ => rfl
  | s :: l, i => by
    have := ids_free_len l (i + 1)
    simp only [idsFrom, freeFrom]
    split <;> simp <;> omega
theorem free_mem : ∀ (l : List Int) (i : Nat) (x : Int), x ∈ freeFrom l i ↔ ∃ j : Nat, j < l.length ∧ l.getD j 0 < 0 ∧ x = i + j + 1
  | [], _, _ => by simp [freeFrom]
  | s :: l, i, x => by
    have ih := free_mem l (i + 1) x
    simp only [freeFrom]
    have key : (∃ j : Nat, j < (s :: l).length ∧ (s :: l).getD j 0 < 0 ∧ x = i + j + 1) ↔ ((s < 0 ∧ x = i + 1) ∨ ∃ j : Nat, j < l.length ∧ l.getD j 0 < 0 ∧ x = (i + 1 : Nat) + j + 1) := by
      constructor
      · rintro ⟨j, hj, hs, hx⟩
        cases j with
        | zero => exact .inl ⟨by simpa [List.getD] using hs, by omega⟩
        | succ j => exact .inr ⟨j, by simpa using hj, by simpa [List.getD] using hs, by omega⟩
      · rintro (⟨hs, hx⟩ | ⟨j, hj, hs, hx⟩)
        · exact ⟨0, by simp, by simpa [List.getD] using hs, by omega⟩
        · exact ⟨j + 1, by simpa using hj, by simpa [List.getD] using hs, by omega⟩
    rw [key]
    split
    · rw [ih]; constructor
      · exact .inr
      · rintro (⟨h, _⟩ | h)
        · omega
        · exact h
    · rw [List.mem_cons, ih]; constructor
      · rintro (h | h)
        · exact .inl ⟨by omega, h⟩
        · exact .inr h
      · rintro (⟨_, h⟩ | h)
        · exact .inl h
        · exact .inr h
theorem usedOf_nonneg : ∀ l : List Int, 0 ≤ usedOf l
  | [] => by simp [usedOf]
  | s :: l => by have := usedOf_nonneg l; simp only [usedOf]; split <;> omega
theorem usedOf_at : ∀ (l : List Int) (j : Nat), j < l.length → 0 ≤ l.getD j 0 → l.getD j 0 ≤ usedOf l
  | [], j, h, _ => by simp at h
  | s :: l, 0, _, h => by
    have := usedOf_nonneg l
    simp [List.getD] at h
    simp [List.getD, usedOf, h]; omega
  | s :: l, j + 1, hj, h => by
    have := usedOf_at l j (by simpa using hj) (by simpa [List.getD] using h)
    simp only [usedOf]
    have e : (s :: l).getD (j + 1) 0 = l.getD j 0 := by simp [List.getD]
    rw [e]; split <;> omega
theorem usedOf_set : ∀ (l : List Int) (j : Nat) (x : Int), j < l.length → usedOf (l.set j x) = usedOf l - (if 0 ≤ l.getD j 0 then l.getD j 0 else 0) + (if 0 ≤ x then x else 0)
  | [], j, _, h => by simp at h
  | s :: l, 0, x, _ => by simp only [List.set_cons_zero, usedOf, List.getD, List.getElem?_cons_zero, Option.getD_some]; split <;> split <;> omega
  | s :: l, j + 1, x, hj => by
    have ih := usedOf_set l j x (by simpa using hj)
    have e : (s :: l).getD (j + 1) 0 = l.getD j 0 := by simp [List.getD]
    rw [e]
    simp only [List.set_cons_succ, usedOf, ih]
    split <;> omega
theorem usedOf_append : ∀ (l : List Int) (x : Int), usedOf (l ++ [x]) = usedOf l + (if 0 ≤ x then x else 0)
  | [], x => by simp [usedOf]
  | s :: l, x => by simp only [List.cons_append, usedOf, usedOf_append l x]; split <;> omega
end Go.Proofs.Ythnlkahgmbadoaa
