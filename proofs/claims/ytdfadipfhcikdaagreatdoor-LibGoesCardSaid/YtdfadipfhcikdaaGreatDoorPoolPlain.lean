/- Plain laws of a list that is a heap (the least one first): sifting up and down. No program in sight. -/
import Derived.WalkKit
namespace Go.Proofs.YtdfadipfhcikdaaGreatDoor
set_option linter.unusedSimpArgs false
set_option linter.unusedVariables false

def swp (l : List Int) (i j : Nat) : List Int := (l.set i (l.getD j 0)).set j (l.getD i 0)
theorem swp_len (l : List Int) (i j : Nat) : (swp l i j).length = l.length := by simp [swp]
theorem swp_at (l : List Int) (i j k : Nat) (hi : i < l.length) (hj : j < l.length) : (swp l i j).getD k 0 = if k = j then l.getD i 0 else if k = i then l.getD j 0 else l.getD k 0 := by
  unfold swp
  simp only [List.getD, List.getElem?_set, List.length_set]
  by_cases h1 : k = j
  · subst h1; simp [hi, hj]
  · rw [if_neg (fun h => h1 h.symm), if_neg h1]
    by_cases h2 : k = i
    · subst h2; simp [hi, hj]
    · rw [if_neg (fun h => h2 h.symm), if_neg h2]
theorem getD_lt (l : List Int) (i : Nat) (h : i < l.length) : l.getD i 0 = l[i] := by simp [List.getD, h]
theorem swp_perm (l : List Int) (i j : Nat) (hi : i < l.length) (hj : j < l.length) : (swp l i j).Perm l := by
  have hs : swp l i j = (l.set i l[j]).set j l[i] := by unfold swp; rw [getD_lt l i hi, getD_lt l j hj]
  rw [hs, List.perm_iff_count]
  intro a
  rw [List.count_set (by simpa using hj), List.count_set hi]
  by_cases e : i = j
  · subst e
    have hp : l[i] == a → 0 < l.count a := fun h => List.count_pos_iff.2 (by have := List.getElem_mem hi; rw [beq_iff_eq.1 h] at this; exact this)
    simp only [List.getElem_set_self]
    split
    · have := hp (by assumption); omega
    · omega
  · rw [List.getElem_set_ne (fun h => e h)]
    have hp1 : (l[i] == a) = true → 0 < l.count a := fun h => List.count_pos_iff.2 (by have := List.getElem_mem hi; rw [beq_iff_eq.1 h] at this; exact this)
    have hp2 : (l[j] == a) = true → 0 < l.count a := fun h => List.count_pos_iff.2 (by have := List.getElem_mem hj; rw [beq_iff_eq.1 h] at this; exact this)
    by_cases h1 : (l[i] == a) = true <;> by_cases h2 : (l[j] == a) = true <;> simp only [h1, h2, if_true, if_false, Bool.false_eq_true]
    · have := hp1 h1; omega
    · have := hp1 h1; omega
    · omega
    · omega

/-! ### up -/
def siftUp (l : List Int) : Nat → Nat → List Int
  | 0, _ => l
  | f + 1, i => if 0 < i ∧ l.getD i 0 < l.getD ((i - 1) / 2) 0 then siftUp (swp l i ((i - 1) / 2)) f ((i - 1) / 2) else l

def IsHeap (l : List Int) : Prop := ∀ i, 0 < i → i < l.length → l.getD ((i - 1) / 2) 0 ≤ l.getD i 0

theorem siftUp_len : ∀ (f : Nat) (l : List Int) (i : Nat), (siftUp l f i).length = l.length
  | 0, _, _ => rfl
  | f + 1, l, i => by
    simp only [siftUp]; split
    · rw [siftUp_len f, swp_len]
    · rfl
theorem siftUp_perm : ∀ (f : Nat) (l : List Int) (i : Nat), i < l.length → (siftUp l f i).Perm l
  | 0, _, _, _ => List.Perm.refl _
  | f + 1, l, i, hi => by
    simp only [siftUp]; split
    · exact (siftUp_perm f _ _ (by rw [swp_len]; omega)).trans (swp_perm l _ _ hi (by omega))
    · exact List.Perm.refl _
theorem siftUp_heap : ∀ (f : Nat) (l : List Int) (i : Nat), i < l.length → i ≤ f →
    (∀ j, 0 < j → j < l.length → j ≠ i → l.getD ((j - 1) / 2) 0 ≤ l.getD j 0) →
    (∀ c, 0 < c → c < l.length → (c - 1) / 2 = i → 0 < i → l.getD ((i - 1) / 2) 0 ≤ l.getD c 0) → IsHeap (siftUp l f i)
  | 0, l, i, hi, hf, h1, _ => fun j hj hjl => h1 j hj hjl (by omega)
  | f + 1, l, i, hi, hf, h1, h2 => by
    simp only [siftUp]; split
    · rename_i hc
      obtain ⟨h0, hlt⟩ := hc
      have hp : (i - 1) / 2 < l.length := by omega
      refine siftUp_heap f _ _ (by rw [swp_len]; omega) (by omega) ?_ ?_
      · intro j hj hjl hne
        rw [swp_len] at hjl
        rw [swp_at l i _ j hi hp, swp_at l i _ _ hi hp]
        by_cases e1 : j = i
        · subst e1; rw [if_neg hne, if_pos rfl, if_pos rfl]; omega
        · rw [if_neg hne, if_neg e1]
          have a1 := h1 j hj hjl e1
          by_cases e2 : (j - 1) / 2 = (i - 1) / 2
          · rw [if_pos e2]; rw [e2] at a1; omega
          · rw [if_neg e2]
            by_cases e3 : (j - 1) / 2 = i
            · rw [if_pos e3]; exact h2 j hj hjl e3 h0
            · rw [if_neg e3]; exact a1
      · intro c hc hcl hce hp0
        rw [swp_len] at hcl
        rw [swp_at l i _ c hi hp, swp_at l i _ _ hi hp, if_neg (show ¬ ((i - 1) / 2 - 1) / 2 = (i - 1) / 2 by omega), if_neg (show ¬ ((i - 1) / 2 - 1) / 2 = i by omega)]
        have b1 := h1 ((i - 1) / 2) hp0 hp (by omega)
        by_cases e1 : c = i
        · rw [if_neg (by omega), if_pos e1]; exact b1
        · rw [if_neg (by omega), if_neg e1]
          have := h1 c hc hcl e1
          rw [hce] at this
          omega
    · rename_i hc
      intro j hj hjl
      by_cases e : j = i
      · subst e
        false_or_by_contra
        exact hc ⟨hj, by omega⟩
      · exact h1 j hj hjl e

/-! ### down -/
def lower (l : List Int) (i k : Nat) : Nat := if k < l.length ∧ l.getD k 0 < l.getD i 0 then k else i
def siftDown (l : List Int) : Nat → Nat → List Int
  | 0, _ => l
  | f + 1, i => if lower l (lower l i (2 * i + 1)) (2 * i + 2) = i then l else siftDown (swp l i (lower l (lower l i (2 * i + 1)) (2 * i + 2))) f (lower l (lower l i (2 * i + 1)) (2 * i + 2))

theorem lower_cases (l : List Int) (i k : Nat) : lower l i k = i ∨ (lower l i k = k ∧ k < l.length) := by
  unfold lower; split
  · exact .inr ⟨rfl, by omega⟩
  · exact .inl rfl
theorem low_cases (l : List Int) (i : Nat) : lower l (lower l i (2 * i + 1)) (2 * i + 2) = i ∨ (lower l (lower l i (2 * i + 1)) (2 * i + 2) = 2 * i + 1 ∧ 2 * i + 1 < l.length) ∨ (lower l (lower l i (2 * i + 1)) (2 * i + 2) = 2 * i + 2 ∧ 2 * i + 2 < l.length) := by
  rcases lower_cases l i (2 * i + 1) with h | ⟨h, h'⟩
  · rw [h]
    rcases lower_cases l i (2 * i + 2) with h1 | ⟨h1, h2⟩
    · exact .inl h1
    · exact .inr (.inr ⟨h1, h2⟩)
  · rw [h]
    rcases lower_cases l (2 * i + 1) (2 * i + 2) with h1 | ⟨h1, h2⟩
    · exact .inr (.inl ⟨h1, h'⟩)
    · exact .inr (.inr ⟨h1, h2⟩)
/-- the chosen one is no greater than i and both children -/
theorem low_le (l : List Int) (i : Nat) : l.getD (lower l (lower l i (2 * i + 1)) (2 * i + 2)) 0 ≤ l.getD i 0 ∧
    (2 * i + 1 < l.length → l.getD (lower l (lower l i (2 * i + 1)) (2 * i + 2)) 0 ≤ l.getD (2 * i + 1) 0) ∧ (2 * i + 2 < l.length → l.getD (lower l (lower l i (2 * i + 1)) (2 * i + 2)) 0 ≤ l.getD (2 * i + 2) 0) := by
  have a : ∀ i k, l.getD (lower l i k) 0 ≤ l.getD i 0 ∧ (k < l.length → l.getD (lower l i k) 0 ≤ l.getD k 0) := by
    intro i k; unfold lower; split
    · rename_i h; exact ⟨by omega, fun _ => Int.le_refl _⟩
    · rename_i h; exact ⟨Int.le_refl _, fun hk => by false_or_by_contra; exact h ⟨hk, by omega⟩⟩
  have a1 := a i (2 * i + 1)
  have a2 := a (lower l i (2 * i + 1)) (2 * i + 2)
  exact ⟨Int.le_trans a2.1 a1.1, fun h => Int.le_trans a2.1 (a1.2 h), fun h => a2.2 h⟩

theorem siftDown_len : ∀ (f : Nat) (l : List Int) (i : Nat), (siftDown l f i).length = l.length
  | 0, _, _ => rfl
  | f + 1, l, i => by
    simp only [siftDown]; split
    · rfl
    · rw [siftDown_len f, swp_len]
theorem siftDown_perm : ∀ (f : Nat) (l : List Int) (i : Nat), i < l.length → (siftDown l f i).Perm l
  | 0, _, _, _ => List.Perm.refl _
  | f + 1, l, i, hi => by
    simp only [siftDown]; split
    · exact List.Perm.refl _
    · rename_i hne
      have hk : lower l (lower l i (2 * i + 1)) (2 * i + 2) < l.length := by rcases low_cases l i with h | ⟨h, h'⟩ | ⟨h, h'⟩ <;> omega
      exact (siftDown_perm f _ _ (by rw [swp_len]; omega)).trans (swp_perm l _ _ hi hk)
theorem siftDown_heap : ∀ (f : Nat) (l : List Int) (i : Nat), i < l.length → l.length - i ≤ f →
    (∀ j, 0 < j → j < l.length → (j - 1) / 2 ≠ i → l.getD ((j - 1) / 2) 0 ≤ l.getD j 0) →
    (∀ c, 0 < c → c < l.length → (c - 1) / 2 = i → 0 < i → l.getD ((i - 1) / 2) 0 ≤ l.getD c 0) → IsHeap (siftDown l f i)
  | 0, l, i, hi, hf, _, _ => by omega
  | f + 1, l, i, hi, hf, h1, h2 => by
    have hle := low_le l i
    have hcs := low_cases l i
    simp only [siftDown]
    generalize lower l (lower l i (2 * i + 1)) (2 * i + 2) = k at *
    split
    · rename_i hk
      subst hk
      intro j hj hjl
      by_cases e : (j - 1) / 2 = k
      · rw [e]
        have : j = 2 * k + 1 ∨ j = 2 * k + 2 := by omega
        rcases this with rfl | rfl
        · exact hle.2.1 hjl
        · exact hle.2.2 hjl
      · exact h1 j hj hjl e
    · rename_i hne
      have hk : k < l.length ∧ (k = 2 * i + 1 ∨ k = 2 * i + 2) := by rcases hcs with h | ⟨h, h'⟩ | ⟨h, h'⟩ <;> omega
      have hpk : (k - 1) / 2 = i := by omega
      refine siftDown_heap f _ _ (by rw [swp_len]; omega) (by rw [swp_len]; omega) ?_ ?_
      · intro j hj hjl hjk
        rw [swp_len] at hjl
        rw [swp_at l i _ j hi hk.1, swp_at l i _ _ hi hk.1, if_neg hjk]
        by_cases e1 : (j - 1) / 2 = i
        · rw [if_pos e1]
          have : j = 2 * i + 1 ∨ j = 2 * i + 2 := by omega
          by_cases e2 : j = k
          · rw [if_pos e2]; exact hle.1
          · rw [if_neg e2, if_neg (by omega)]
            rcases this with rfl | rfl
            · exact hle.2.1 hjl
            · exact hle.2.2 hjl
        · rw [if_neg e1]
          have a1 := h1 j hj hjl e1
          have e2 : j ≠ k := fun e => e1 (by rw [e]; exact hpk)
          rw [if_neg e2]
          by_cases e3 : j = i
          · rw [if_pos e3]
            have h0 : 0 < i := by omega
            rw [e3]
            exact h2 k (by omega) hk.1 hpk h0
          · rw [if_neg e3]; exact a1
      · intro c hc hcl hck hk0
        rw [swp_len] at hcl
        rw [swp_at l i _ c hi hk.1, swp_at l i _ _ hi hk.1, if_neg (show ¬ (k - 1) / 2 = k by omega), if_pos hpk, if_neg (show ¬ c = k by omega), if_neg (show ¬ c = i by omega)]
        have := h1 c hc hcl (by omega)
        rw [hck] at this; exact this

/-- the first one is the least -/
theorem heap_least (l : List Int) (h : IsHeap l) : ∀ i, i < l.length → l.getD 0 0 ≤ l.getD i 0 := by
  intro i
  induction i using Nat.strongRecOn with
  | _ i ih =>
    intro hi
    by_cases h0 : i = 0
    · subst h0; exact Int.le_refl _
    · have a := h i (by omega) hi
      have b := ih ((i - 1) / 2) (by omega) (by omega)
      omega

/-- one more at the end, sifted up -/
def heapPush (l : List Int) (x : Int) : List Int := siftUp (l ++ [x]) l.length l.length
theorem heapPush_perm (l : List Int) (x : Int) : (heapPush l x).Perm (x :: l) := (siftUp_perm _ _ _ (by simp)).trans List.perm_append_comm
theorem getD_app (l : List Int) (x : Int) (i : Nat) (h : i < l.length) : (l ++ [x]).getD i 0 = l.getD i 0 := by simp [List.getD, List.getElem?_append_left h]
theorem heapPush_heap (l : List Int) (x : Int) (h : IsHeap l) : IsHeap (heapPush l x) := by
  refine siftUp_heap _ _ _ (by simp) (Nat.le_refl _) ?_ ?_
  · intro j hj hjl hne
    have hj' : j < l.length := by simp at hjl; omega
    rw [getD_app l x j hj', getD_app l x _ (by omega)]
    exact h j hj hj'
  · intro c hc hcl hce h0
    simp at hcl; omega

/-- the first one taken out: the last one in its place, sifted down -/
def heapPop (l : List Int) : List Int := siftDown ((l.set 0 (l.getD (l.length - 1) 0)).take (l.length - 1)) (l.length - 1) 0
theorem pop_at (l : List Int) (i : Nat) (hi : i < l.length - 1) : ((l.set 0 (l.getD (l.length - 1) 0)).take (l.length - 1)).getD i 0 = if i = 0 then l.getD (l.length - 1) 0 else l.getD i 0 := by
  simp only [List.getD, List.getElem?_take, hi, if_true, List.getElem?_set]
  by_cases e : i = 0
  · subst e; simp; rw [if_pos (by omega)]; simp
  · rw [if_neg (fun h => e h.symm), if_neg e]
theorem heapPop_heap (l : List Int) (h : IsHeap l) : IsHeap (heapPop l) := by
  unfold heapPop
  have hl : ((l.set 0 (l.getD (l.length - 1) 0)).take (l.length - 1)).length = l.length - 1 := by simp
  by_cases h0 : l.length - 1 = 0
  · intro j hj hjl
    rw [siftDown_len, hl] at hjl; omega
  · refine siftDown_heap _ _ _ (by rw [hl]; omega) (by rw [hl]; omega) ?_ ?_
    · intro j hj hjl hne
      rw [hl] at hjl
      rw [pop_at l j hjl, pop_at l _ (by omega), if_neg (by omega), if_neg (by omega)]
      exact h j hj (by omega)
    · intro c hc hcl hce hi0; omega
theorem heapPop_perm (l : List Int) (h : 0 < l.length) : (l.getD 0 0 :: heapPop l).Perm l := by
  unfold heapPop
  have hl : ((l.set 0 (l.getD (l.length - 1) 0)).take (l.length - 1)).length = l.length - 1 := by simp
  have key : (l.getD 0 0 :: (l.set 0 (l.getD (l.length - 1) 0)).take (l.length - 1)).Perm l := by
    cases l with
    | nil => simp at h
    | cons a t =>
      rcases List.eq_nil_or_concat t with rfl | ⟨t, b, rfl⟩
      · simp
      · simp [List.getD]
        exact List.perm_append_comm (l₁ := [b])
  by_cases h0 : l.length - 1 = 0
  · rw [h0] at key ⊢
    exact key
  · exact (List.Perm.cons _ (siftDown_perm _ _ _ (by rw [hl]; omega))).trans key
theorem heapPop_len (l : List Int) : (heapPop l).length = l.length - 1 := by unfold heapPop; rw [siftDown_len]; simp
theorem heapPush_len (l : List Int) (x : Int) : (heapPush l x).length = l.length + 1 := by unfold heapPush; rw [siftUp_len]; simp
end Go.Proofs.YtdfadipfhcikdaaGreatDoor

namespace Go.Proofs.YtdfadipfhcikdaaGreatDoor
set_option linter.unusedSimpArgs false
set_option linter.unusedVariables false

structure PS where
  bound : Int
  used : Int
  count : Int
  sizes : List Int
  free : List Int

/-- has it that object? -/
def hasP (st : PS) (id : Int) : Bool := decide (1 ≤ id) && decide (id ≤ st.sizes.length) && decide (0 ≤ st.sizes.getD (id - 1).toNat 0)

def takeP (st : PS) (size : Int) : PS × Int × Int :=
  if size < 0 then (st, 0, 2)
  else if st.bound - st.used < size ∨ st.count = 65536 then (st, 0, 5)
  else if st.free.length = 0 then ({ st with used := st.used + size, count := st.count + 1, sizes := st.sizes ++ [size] }, st.sizes.length + 1, 0)
  else ({ st with used := st.used + size, count := st.count + 1, sizes := st.sizes.set (st.free.getD 0 0 - 1).toNat size, free := heapPop st.free }, st.free.getD 0 0, 0)

def giveP (st : PS) (id : Int) : PS × Int :=
  if hasP st id = true then ({ st with used := st.used - st.sizes.getD (id - 1).toNat 0, count := st.count - 1, sizes := st.sizes.set (id - 1).toNat (-1), free := heapPush st.free id }, 0) else (st, 2)

def resizeP (st : PS) (id size : Int) : PS × Int :=
  if hasP st id = false ∨ size < 0 then (st, 2)
  else if st.bound - st.used + st.sizes.getD (id - 1).toNat 0 < size then (st, 5)
  else ({ st with used := st.used + (size - st.sizes.getD (id - 1).toNat 0), sizes := st.sizes.set (id - 1).toNat size }, 0)

def sizeP (st : PS) (id : Int) : Int × Bool := if hasP st id = true then (st.sizes.getD (id - 1).toNat 0, true) else (0, false)

/-- the numbers of those that are there, from i + 1 on -/
def idsFrom : List Int → Nat → List Int
  | [], _ => []
  | s :: l, i => if 0 ≤ s then ((i : Int) + 1) :: idsFrom l (i + 1) else idsFrom l (i + 1)
def idsP (st : PS) : List Int := idsFrom st.sizes 0
/-- the free numbers -/
def freeFrom : List Int → Nat → List Int
  | [], _ => []
  | s :: l, i => if 0 ≤ s then freeFrom l (i + 1) else ((i : Int) + 1) :: freeFrom l (i + 1)
def usedOf : List Int → Int
  | [] => 0
  | s :: l => if 0 ≤ s then s + usedOf l else usedOf l

/-- what holds of every pool that New made -/
structure Good (st : PS) : Prop where
  b0 : 0 ≤ st.bound
  b1 : st.bound ≤ 1073741824
  used : st.used = usedOf st.sizes
  le : st.used ≤ st.bound
  count : st.count = (idsFrom st.sizes 0).length
  low : ∀ s ∈ st.sizes, -1 ≤ s
  free : st.free.Perm (freeFrom st.sizes 0)
  heap : IsHeap st.free
  len : st.sizes.length ≤ 65536

theorem ids_free_len : ∀ (l : List Int) (i : Nat), (idsFrom l i).length + (freeFrom l i).length = l.length
  | [], _ => rfl
  | s :: l, i => by
    have := ids_free_len l (i + 1)
    simp only [idsFrom, freeFrom]
    split <;> simp <;> omega
theorem free_mem : ∀ (l : List Int) (i : Nat) (x : Int), x ∈ freeFrom l i ↔ ∃ j : Nat, j < l.length ∧ l.getD j 0 < 0 ∧ x = i + j + 1
  | [], _, _ => by simp [freeFrom]
  | s :: l, i, x => by
    have ih := free_mem l (i + 1) x
    simp only [freeFrom]
    have key : (∃ j : Nat, j < (s :: l).length ∧ (s :: l).getD j 0 < 0 ∧ x = i + j + 1) ↔ ((s < 0 ∧ x = i + 1) ∨ ∃ j : Nat, j < l.length ∧ l.getD j 0 < 0 ∧ x = (i + 1 : Nat) + j + 1) := by
      constructor
      · rintro ⟨j, hj, hs, hx⟩
        cases j with
        | zero => exact .inl ⟨by simpa [List.getD] using hs, by omega⟩
        | succ j => exact .inr ⟨j, by simpa using hj, by simpa [List.getD] using hs, by omega⟩
      · rintro (⟨hs, hx⟩ | ⟨j, hj, hs, hx⟩)
        · exact ⟨0, by simp, by simpa [List.getD] using hs, by omega⟩
        · exact ⟨j + 1, by simpa using hj, by simpa [List.getD] using hs, by omega⟩
    rw [key]
    split
    · rw [ih]; constructor
      · exact .inr
      · rintro (⟨h, _⟩ | h)
        · omega
        · exact h
    · rw [List.mem_cons, ih]; constructor
      · rintro (h | h)
        · exact .inl ⟨by omega, h⟩
        · exact .inr h
      · rintro (⟨_, h⟩ | h)
        · exact .inl h
        · exact .inr h
theorem usedOf_nonneg : ∀ l : List Int, 0 ≤ usedOf l
  | [] => by simp [usedOf]
  | s :: l => by have := usedOf_nonneg l; simp only [usedOf]; split <;> omega
theorem usedOf_at : ∀ (l : List Int) (j : Nat), j < l.length → 0 ≤ l.getD j 0 → l.getD j 0 ≤ usedOf l
  | [], j, h, _ => by simp at h
  | s :: l, 0, _, h => by
    have := usedOf_nonneg l
    simp [List.getD] at h
    simp [List.getD, usedOf, h]; omega
  | s :: l, j + 1, hj, h => by
    have := usedOf_at l j (by simpa using hj) (by simpa [List.getD] using h)
    simp only [usedOf]
    have e : (s :: l).getD (j + 1) 0 = l.getD j 0 := by simp [List.getD]
    rw [e]; split <;> omega
theorem usedOf_set : ∀ (l : List Int) (j : Nat) (x : Int), j < l.length → usedOf (l.set j x) = usedOf l - (if 0 ≤ l.getD j 0 then l.getD j 0 else 0) + (if 0 ≤ x then x else 0)
  | [], j, _, h => by simp at h
  | s :: l, 0, x, _ => by simp only [List.set_cons_zero, usedOf, List.getD, List.getElem?_cons_zero, Option.getD_some]; split <;> split <;> omega
  | s :: l, j + 1, x, hj => by
    have ih := usedOf_set l j x (by simpa using hj)
    have e : (s :: l).getD (j + 1) 0 = l.getD j 0 := by simp [List.getD]
    rw [e]
    simp only [List.set_cons_succ, usedOf, ih]
    split <;> omega
theorem usedOf_append : ∀ (l : List Int) (x : Int), usedOf (l ++ [x]) = usedOf l + (if 0 ≤ x then x else 0)
  | [], x => by simp [usedOf]
  | s :: l, x => by simp only [List.cons_append, usedOf, usedOf_append l x]; split <;> omega
end Go.Proofs.YtdfadipfhcikdaaGreatDoor

namespace Go.Proofs.YtdfadipfhcikdaaGreatDoor
set_option linter.unusedSimpArgs false
set_option linter.unusedVariables false

theorem ids_append : ∀ (l : List Int) (i : Nat) (x : Int), idsFrom (l ++ [x]) i = idsFrom l i ++ (if 0 ≤ x then [((i + l.length : Nat) : Int) + 1] else [])
  | [], i, x => by simp only [List.nil_append, idsFrom, List.length_nil, Nat.add_zero]
  | s :: l, i, x => by
    simp only [List.cons_append, idsFrom, ids_append l (i + 1) x, List.length_cons]
    have e : i + 1 + l.length = i + (l.length + 1) := by omega
    rw [e]
    split <;> simp
theorem free_append : ∀ (l : List Int) (i : Nat) (x : Int), freeFrom (l ++ [x]) i = freeFrom l i ++ (if 0 ≤ x then [] else [((i + l.length : Nat) : Int) + 1])
  | [], i, x => by simp only [List.nil_append, freeFrom, List.length_nil, Nat.add_zero]
  | s :: l, i, x => by
    simp only [List.cons_append, freeFrom, free_append l (i + 1) x, List.length_cons]
    have e : i + 1 + l.length = i + (l.length + 1) := by omega
    rw [e]
    split <;> simp
/-- an object goes: its number is free -/
theorem free_gone : ∀ (l : List Int) (i j : Nat) (x : Int), j < l.length → 0 ≤ l.getD j 0 → x < 0 → (freeFrom (l.set j x) i).Perm (((i : Int) + j + 1) :: freeFrom l i)
  | [], _, j, _, h, _, _ => by simp at h
  | s :: l, i, 0, x, _, h, hx => by
    simp [List.getD] at h
    simp only [List.set_cons_zero, freeFrom]
    rw [if_neg (by omega), if_pos h]
    simp
  | s :: l, i, j + 1, x, hj, h, hx => by
    have ih := free_gone l (i + 1) j x (by simpa using hj) (by simpa [List.getD] using h) hx
    have e : ((i + 1 : Nat) : Int) + j + 1 = (i : Int) + (j + 1 : Nat) + 1 := by omega
    rw [e] at ih
    simp only [List.set_cons_succ, freeFrom]
    split
    · exact ih
    · exact (ih.cons _).trans (List.Perm.swap ..)
theorem free_same : ∀ (l : List Int) (i j : Nat) (x : Int), j < l.length → (0 ≤ l.getD j 0 ↔ 0 ≤ x) → freeFrom (l.set j x) i = freeFrom l i ∧ idsFrom (l.set j x) i = idsFrom l i
  | [], _, j, _, h, _ => by simp at h
  | s :: l, i, 0, x, _, h => by
    simp [List.getD] at h
    simp only [List.set_cons_zero, freeFrom, idsFrom]
    constructor <;> (split <;> split <;> first | rfl | omega)
  | s :: l, i, j + 1, x, hj, h => by
    have ih := free_same l (i + 1) j x (by simpa using hj) (by simpa [List.getD] using h)
    simp only [List.set_cons_succ, freeFrom, idsFrom, ih.1, ih.2]
    constructor <;> trivial
theorem set_back (l : List Int) (j : Nat) (x : Int) (hj : j < l.length) : (l.set j x).set j (l.getD j 0) = l := by
  rw [List.set_set]
  apply List.ext_getElem?
  intro k
  rw [List.getElem?_set]
  split
  · next h => subst h; simp [List.getD, hj]
  · rfl
theorem getD_set (l : List Int) (j : Nat) (x : Int) (hj : j < l.length) : (l.set j x).getD j 0 = x := by simp [List.getD, hj]
/-- a free number is taken -/
theorem free_taken (l : List Int) (i j : Nat) (x : Int) (hj : j < l.length) (h : l.getD j 0 < 0) (hx : 0 ≤ x) : (freeFrom l i).Perm (((i : Int) + j + 1) :: freeFrom (l.set j x) i) := by
  have := free_gone (l.set j x) i j (l.getD j 0) (by simpa using hj) (by rw [getD_set _ _ _ hj]; exact hx) h
  rwa [set_back _ _ _ hj] at this
theorem low_set {l : List Int} {j : Nat} {x : Int} (h : ∀ s ∈ l, -1 ≤ s) (hx : -1 ≤ x) : ∀ s ∈ l.set j x, -1 ≤ s := by
  intro s hs
  rcases List.mem_or_eq_of_mem_set hs with h' | h'
  · exact h s h'
  · rw [h']; exact hx

theorem good_new (n : Int) (h0 : 0 ≤ n) (h1 : n ≤ 1073741824) : Good ⟨n, 0, 0, [], []⟩ :=
  ⟨h0, h1, rfl, h0, rfl, by simp, List.Perm.refl _, by intro i h h'; simp at h', by simp⟩

theorem Good.used0 {st : PS} (h : Good st) : 0 ≤ st.used := by rw [h.used]; exact usedOf_nonneg _
theorem Good.cnt {st : PS} (h : Good st) : 0 ≤ st.count ∧ st.count + st.free.length = st.sizes.length := by
  have := ids_free_len st.sizes 0
  have := h.free.length_eq
  have := h.count
  omega
/-- the top of the free ones is a number that is free, and the least of them -/
theorem Good.top {st : PS} (h : Good st) (hn : 0 < st.free.length) : ∃ j : Nat, st.free.getD 0 0 = (j : Int) + 1 ∧ j < st.sizes.length ∧ st.sizes.getD j 0 < 0 ∧ ∀ x ∈ freeFrom st.sizes 0, (j : Int) + 1 ≤ x := by
  have hm : st.free.getD 0 0 ∈ st.free := by rw [getD_lt _ _ hn]; exact List.getElem_mem _
  obtain ⟨j, hj, hs, he⟩ := (free_mem _ _ _).1 (h.free.mem_iff.1 hm)
  refine ⟨j, by rw [he]; omega, hj, hs, fun x hx => ?_⟩
  obtain ⟨i, hi, rfl⟩ := List.getElem_of_mem (h.free.mem_iff.2 hx)
  have := heap_least _ h.heap i hi
  rw [getD_lt _ i hi] at this
  omega

theorem Good.take {st : PS} (h : Good st) (size : Int) : Good (takeP st size).1 := by
  have hu := h.used0
  have hcn := h.cnt
  unfold takeP
  split
  · exact h
  · next h0 =>
    split
    · exact h
    · next h1 =>
      have h1a : ¬ st.bound - st.used < size := fun h => h1 (.inl h)
      have h1b : ¬ st.count = 65536 := fun h => h1 (.inr h)
      split
      · next h2 =>
        have h3 : st.sizes.length < 65536 := by
          have := h.len
          omega
        refine ⟨h.b0, h.b1, ?_, by dsimp only; omega, ?_, ?_, ?_, h.heap, by simp; omega⟩
        · dsimp only; rw [usedOf_append, if_pos (by omega), h.used]
        · dsimp only; rw [ids_append, if_pos (by omega), h.count]; simp
        · intro s hs
          rcases List.mem_append.1 hs with hs | hs
          · exact h.low s hs
          · simp at hs; omega
        · dsimp only; rw [free_append, if_pos (by omega), List.append_nil]; exact h.free
      · next h2 =>
        obtain ⟨j, hj, hjl, hneg, _⟩ := h.top (by omega)
        rw [hj, show ((j : Int) + 1 - 1).toNat = j from by omega]
        have hp := heapPop_perm st.free (by omega)
        rw [hj] at hp
        have ht := free_taken st.sizes 0 j size hjl hneg (by omega)
        rw [show ((0 : Nat) : Int) + (j : Int) + 1 = (j : Int) + 1 from by omega] at ht
        refine ⟨h.b0, h.b1, ?_, by dsimp only; omega, ?_, low_set h.low (by omega), ?_, heapPop_heap _ h.heap, by simpa using h.len⟩
        · dsimp only; rw [usedOf_set _ _ _ hjl, if_neg (by omega), if_pos (by omega), h.used]; omega
        · have a1 := ids_free_len st.sizes 0
          have a2 := ids_free_len (st.sizes.set j size) 0
          have a3 := ht.length_eq
          have a4 := h.count
          simp at a2 a3
          dsimp only; omega
        · exact (List.perm_cons _).1 (hp.trans (h.free.trans ht))

theorem Good.give {st : PS} (h : Good st) (id : Int) : Good (giveP st id).1 := by
  unfold giveP
  split
  · next hh =>
    simp only [hasP, Bool.and_eq_true, decide_eq_true_eq] at hh
    obtain ⟨⟨h1, h2⟩, h3⟩ := hh
    obtain ⟨j, hj⟩ : ∃ j : Nat, id = (j : Int) + 1 := ⟨(id - 1).toNat, by omega⟩
    subst hj
    rw [show ((j : Int) + 1 - 1).toNat = j from by omega] at h3 ⊢
    have hjl : j < st.sizes.length := by omega
    have hg := free_gone st.sizes 0 j (-1) hjl h3 (by omega)
    rw [show ((0 : Nat) : Int) + (j : Int) + 1 = (j : Int) + 1 from by omega] at hg
    have hle := h.le
    refine ⟨h.b0, h.b1, ?_, by dsimp only; omega, ?_, low_set h.low (by omega), ?_, heapPush_heap _ _ h.heap, by simpa using h.len⟩
    · dsimp only; rw [usedOf_set _ _ _ hjl, if_pos h3, if_neg (by omega), h.used]; omega
    · have a1 := ids_free_len st.sizes 0
      have a2 := ids_free_len (st.sizes.set j (-1)) 0
      have a3 := hg.length_eq
      have a4 := h.count
      simp at a2 a3
      dsimp only; omega
    · exact (heapPush_perm _ _).trans ((h.free.cons _).trans hg.symm)
  · exact h

theorem Good.resize {st : PS} (h : Good st) (id size : Int) : Good (resizeP st id size).1 := by
  unfold resizeP
  split
  · exact h
  · next h0 =>
    split
    · exact h
    · next h1 =>
      have hh : hasP st id = true := by cases e : hasP st id with
        | true => rfl
        | false => exact absurd (.inl e) h0
      have hs : ¬ size < 0 := fun e => h0 (.inr e)
      simp only [hasP, Bool.and_eq_true, decide_eq_true_eq] at hh
      obtain ⟨⟨h1', h2⟩, h3⟩ := hh
      obtain ⟨j, hj⟩ : ∃ j : Nat, id = (j : Int) + 1 := ⟨(id - 1).toNat, by omega⟩
      subst hj
      rw [show ((j : Int) + 1 - 1).toNat = j from by omega] at h1 h3 ⊢
      have hjl : j < st.sizes.length := by omega
      have hsm := free_same st.sizes 0 j size hjl (by omega)
      refine ⟨h.b0, h.b1, ?_, by dsimp only; omega, ?_, low_set h.low (by omega), ?_, h.heap, by simpa using h.len⟩
      · dsimp only; rw [usedOf_set _ _ _ hjl, if_pos h3, if_pos (by omega), h.used]; omega
      · dsimp only; rw [hsm.2]; exact h.count
      · dsimp only; rw [hsm.1]; exact h.free
end Go.Proofs.YtdfadipfhcikdaaGreatDoor
