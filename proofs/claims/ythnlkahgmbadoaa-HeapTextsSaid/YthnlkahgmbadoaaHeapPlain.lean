/- Plain laws of a list that is a heap (the least one first): sifting up and down. No program in sight. -/
import Derived.WalkKit
namespace Go.Proofs.Ythnlkahgmbadoaa
set_option linter.unusedSimpArgs false
set_option linter.unusedVariables false

def swp (l : List Int) (i j : Nat) : List Int := (l.set i (l.getD j 0)).set j (l.getD i 0)
theorem swp_len (l : List Int) (i j : Nat) : (swp l i j).length = l.length := by simp [swp]
theorem swp_at (l : List Int) (i j k : Nat) (hi : i < l.length) (hj : j < l.length) : (swp l i j).getD k 0 = if k = j then l.getD i 0 else if k = i then l.getD j 0 else l.getD k 0 := by
  unfold swp
  simp only [List.getD, List.getElem?_set, List.length_set]
  by_cases h1 : k = j
  · subst h1; simp [hi, hj]
  · rw [if_neg (fun h => h1 h.symm), if_neg h1]
    by_cases h2 : k = i
    · subst h2; simp [hi, hj]
    · rw [if_neg (fun h => h2 h.symm), if_neg h2]
theorem getD_lt (l : List Int) (i : Nat) (h : i < l.length) : l.getD i 0 = l[i] := by simp [List.getD, h]
theorem swp_perm (l : List Int) (i j : Nat) (hi : i < l.length) (hj : j < l.length) : (swp l i j).Perm l := by
  have hs : swp l i j = (l.set i l[j]).set j l[i] := by unfold swp; rw [getD_lt l i hi, getD_lt l j hj]
  rw [hs, List.perm_iff_count]
  intro a
  rw [List.count_set (by simpa using hj), List.count_set hi]
  by_cases e : i = j
  · subst e
    have hp : l[i] == a → 0 < l.count a := fun h => List.count_pos_iff.2 (by have := List.getElem_mem hi; rw [beq_iff_eq.1 h] at this; exact this)
    simp only [List.getElem_set_self]
    split
    · have := hp (by assumption); omega
    · omega
  · rw [List.getElem_set_ne (fun h => e h)]
    have hp1 : (l[i] == a) = true → 0 < l.count a := fun h => List.count_pos_iff.2 (by have := List.getElem_mem hi; rw [beq_iff_eq.1 h] at this; exact this)
    have hp2 : (l[j] == a) = true → 0 < l.count a := fun h => List.count_pos_iff.2 (by have := List.getElem_mem hj; rw [beq_iff_eq.1 h] at this; exact this)
    by_cases h1 : (l[i] == a) = true <;> by_cases h2 : (l[j] == a) = true <;> simp only [h1, h2, if_true, if_false, Bool.false_eq_true]
    · have := hp1 h1; omega
    · have := hp1 h1; omega
    · omega
    · omega

/-! ### up -/
def siftUp (l : List Int) : Nat → Nat → List Int
  | 0, _ => l
  | f + 1, i => if 0 < i ∧ l.getD i 0 < l.getD ((i - 1) / 2) 0 then siftUp (swp l i ((i - 1) / 2)) f ((i - 1) / 2) else l

def IsHeap (l : List Int) : Prop := ∀ i, 0 < i → i < l.length → l.getD ((i - 1) / 2) 0 ≤ l.getD i 0

theorem siftUp_len : ∀ (f : Nat) (l : List Int) (i : Nat), (siftUp l f i).length = l.length
  | 0, _, _ => rfl
  | f + 1, l, i => by
    simp only [siftUp]; split
    · rw [siftUp_len f, swp_len]
    · rfl
theorem siftUp_perm : ∀ (f : Nat) (l : List Int) (i : Nat), i < l.length → (siftUp l f i).Perm l
  | 0, _, _, _ => List.Perm.refl _
  | f + 1, l, i, hi => by
    simp only [siftUp]; split
    · exact (siftUp_perm f _ _ (by rw [swp_len]; omega)).trans (swp_perm l _ _ hi (by omega))
    · exact List.Perm.refl _
theorem siftUp_heap : ∀ (f : Nat) (l : List Int) (i : Nat), i < l.length → i ≤ f →
    (∀ j, 0 < j → j < l.length → j ≠ i → l.getD ((j - 1) / 2) 0 ≤ l.getD j 0) →
    (∀ c, 0 < c → c < l.length → (c - 1) / 2 = i → 0 < i → l.getD ((i - 1) / 2) 0 ≤ l.getD c 0) → IsHeap (siftUp l f i)
  | 0, l, i, hi, hf, h1, _ => fun j hj hjl => h1 j hj hjl (by omega)
  | f + 1, l, i, hi, hf, h1, h2 => by
    simp only [siftUp]; split
    · rename_i hc
      obtain ⟨h0, hlt⟩ := hc
      have hp : (i - 1) / 2 < l.length := by omega
      refine siftUp_heap f _ _ (by rw [swp_len]; omega) (by omega) ?_ ?_
      · intro j hj hjl hne
        rw [swp_len] at hjl
        rw [swp_at l i _ j hi hp, swp_at l i _ _ hi hp]
        by_cases e1 : j = i
        · subst e1; rw [if_neg hne, if_pos rfl, if_pos rfl]; omega
        · rw [if_neg hne, if_neg e1]
          have a1 := h1 j hj hjl e1
          by_cases e2 : (j - 1) / 2 = (i - 1) / 2
          · rw [if_pos e2]; rw [e2] at a1; omega
          · rw [if_neg e2]
            by_cases e3 : (j - 1) / 2 = i
            · rw [if_pos e3]; exact h2 j hj hjl e3 h0
            · rw [if_neg e3]; exact a1
      · intro c hc hcl hce hp0
        rw [swp_len] at hcl
        rw [swp_at l i _ c hi hp, swp_at l i _ _ hi hp, if_neg (show ¬ ((i - 1) / 2 - 1) / 2 = (i - 1) / 2 by omega), if_neg (show ¬ ((i - 1) / 2 - 1) / 2 = i by omega)]
        have b1 := h1 ((i - 1) / 2) hp0 hp (by omega)
        by_cases e1 : c = i
        · rw [if_neg (by omega), if_pos e1]; exact b1
        · rw [if_neg (by omega), if_neg e1]
          have := h1 c hc hcl e1
          rw [hce] at this
          omega
    · rename_i hc
      intro j hj hjl
      by_cases e : j = i
      · subst e
        false_or_by_contra
        exact hc ⟨hj, by omega⟩
      · exact h1 j hj hjl e

/-! ### down -/
def lower (l : List Int) (i k : Nat) : Nat := if k < l.length ∧ l.getD k 0 < l.getD i 0 then k else i
def siftDown (l : List Int) : Nat → Nat → List Int
  | 0, _ => l
  | f + 1, i => if lower l (lower l i (2 * i + 1)) (2 * i + 2) = i then l else siftDown (swp l i (lower l (lower l i (2 * i + 1)) (2 * i + 2))) f (lower l (lower l i (2 * i + 1)) (2 * i + 2))

theorem lower_cases (l : List Int) (i k : Nat) : lower l i k = i ∨ (lower l i k = k ∧ k < l.length) := by
  unfold lower; split
  · exact .inr ⟨rfl, by omega⟩
  · exact .inl rfl
theorem low_cases (l : List Int) (i : Nat) : lower l (lower l i (2 * i + 1)) (2 * i + 2) = i ∨ (lower l (lower l i (2 * i + 1)) (2 * i + 2) = 2 * i + 1 ∧ 2 * i + 1 < l.length) ∨ (lower l (lower l i (2 * i + 1)) (2 * i + 2) = 2 * i + 2 ∧ 2 * i + 2 < l.length) := by
  rcases lower_cases l i (2 * i + 1) with h | ⟨h, h'⟩
  · rw [h]
    rcases lower_cases l i (2 * i + 2) with h1 | ⟨h1, h2⟩
    · exact .inl h1
    · exact .inr (.inr ⟨h1, h2⟩)
  · rw [h]
    rcases lower_cases l (2 * i + 1) (2 * i + 2) with h1 | ⟨h1, h2⟩
    · exact .inr (.inl ⟨h1, h'⟩)
    · exact .inr (.inr ⟨h1, h2⟩)
/-- the chosen one is no greater than i and both children -/
theorem low_le (l : List Int) (i : Nat) : l.getD (lower l (lower l i (2 * i + 1)) (2 * i + 2)) 0 ≤ l.getD i 0 ∧
    (2 * i + 1 < l.length → l.getD (lower l (lower l i (2 * i + 1)) (2 * i + 2)) 0 ≤ l.getD (2 * i + 1) 0) ∧ (2 * i + 2 < l.length → l.getD (lower l (lower l i (2 * i + 1)) (2 * i + 2)) 0 ≤ l.getD (2 * i + 2) 0) := by
  have a : ∀ i k, l.getD (lower l i k) 0 ≤ l.getD i 0 ∧ (k < l.length → l.getD (lower l i k) 0 ≤ l.getD k 0) := by
    intro i k; unfold lower; split
    · rename_i h; exact ⟨by omega, fun _ => Int.le_refl _⟩
    · rename_i h; exact ⟨Int.le_refl _, fun hk => by false_or_by_contra; exact h ⟨hk, by omega⟩⟩
  have a1 := a i (2 * i + 1)
  have a2 := a (lower l i (2 * i + 1)) (2 * i + 2)
  exact ⟨Int.le_trans a2.1 a1.1, fun h => Int.le_trans a2.1 (a1.2 h), fun h => a2.2 h⟩

theorem siftDown_len : ∀ (f : Nat) (l : List Int) (i : Nat), (siftDown l f i).length = l.length
  | 0, _, _ => rfl
  | f + 1, l, i => by
    simp only [siftDown]; split
    · rfl
    · rw [siftDown_len f, swp_len]
theorem siftDown_perm : ∀ (f : Nat) (l : List Int) (i : Nat), i < l.length → (siftDown l f i).Perm l
  | 0, _, _, _ => List.Perm.refl _
  | f + 1, l, i, hi => by
    simp only [siftDown]; split
    · exact List.Perm.refl _
    · rename_i hne
      have hk : lower l (lower l i (2 * i + 1)) (2 * i + 2) < l.length := by rcases low_cases l i with h | ⟨h, h'⟩ | ⟨h, h'⟩ <;> omega
      exact (siftDown_perm f _ _ (by rw [swp_len]; omega)).trans (swp_perm l _ _ hi hk)
theorem siftDown_heap : ∀ (f : Nat) (l : List Int) (i : Nat), i < l.length → l.length - i ≤ f →
    (∀ j, 0 < j → j < l.length → (j - 1) / 2 ≠ i → l.getD ((j - 1) / 2) 0 ≤ l.getD j 0) →
    (∀ c, 0 < c → c < l.length → (c - 1) / 2 = i → 0 < i → l.getD ((i - 1) / 2) 0 ≤ l.getD c 0) → IsHeap (siftDown l f i)
  | 0, l, i, hi, hf, _, _ => by omega
  | f + 1, l, i, hi, hf, h1, h2 => by
    have hle := low_le l i
    have hcs := low_cases l i
    simp only [siftDown]
    generalize lower l (lower l i (2 * i + 1)) (2 * i + 2) = k at *
    split
    · rename_i hk
      subst hk
      intro j hj hjl
      by_cases e : (j - 1) / 2 = k
      · rw [e]
        have : j = 2 * k + 1 ∨ j = 2 * k + 2 := by omega
        rcases this with rfl | rfl
        · exact hle.2.1 hjl
        · exact hle.2.2 hjl
      · exact h1 j hj hjl e
    · rename_i hne
      have hk : k < l.length ∧ (k = 2 * i + 1 ∨ k = 2 * i + 2) := by rcases hcs with h | ⟨h, h'⟩ | ⟨h, h'⟩ <;> omega
      have hpk : (k - 1) / 2 = i := by omega
      refine siftDown_heap f _ _ (by rw [swp_len]; omega) (by rw [swp_len]; omega) ?_ ?_
      · intro j hj hjl hjk
        rw [swp_len] at hjl
        rw [swp_at l i _ j hi hk.1, swp_at l i _ _ hi hk.1, if_neg hjk]
        by_cases e1 : (j - 1) / 2 = i
        · rw [if_pos e1]
          have : j = 2 * i + 1 ∨ j = 2 * i + 2 := by omega
          by_cases e2 : j = k
          · rw [if_pos e2]; exact hle.1
          · rw [if_neg e2, if_neg (by omega)]
            rcases this with rfl | rfl
            · exact hle.2.1 hjl
            · exact hle.2.2 hjl
        · rw [if_neg e1]
          have a1 := h1 j hj hjl e1
          have e2 : j ≠ k := fun e => e1 (by rw [e]; exact hpk)
          rw [if_neg e2]
          by_cases e3 : j = i
          · rw [if_pos e3]
            have h0 : 0 < i := by omega
            rw [e3]
            exact h2 k (by omega) hk.1 hpk h0
          · rw [if_neg e3]; exact a1
      · intro c hc hcl hck hk0
        rw [swp_len] at hcl
        rw [swp_at l i _ c hi hk.1, swp_at l i _ _ hi hk.1, if_neg (show ¬ (k - 1) / 2 = k by omega), if_pos hpk, if_neg (show ¬ c = k by omega), if_neg (show ¬ c = i by omega)]
        have := h1 c hc hcl (by omega)
        rw [hck] at this; exact this

/-- the first one is the least -/
theorem heap_least (l : List Int) (h : IsHeap l) : ∀ i, i < l.length → l.getD 0 0 ≤ l.getD i 0 := by
  intro i
  induction i using Nat.strongRecOn with
  | _ i ih =>
    intro hi
    by_cases h0 : i = 0
    · subst h0; exact Int.le_refl _
    · have a := h i (by omega) hi
      have b := ih ((i - 1) / 2) (by omega) (by omega)
      omega

/-- one more at the end, sifted up -/
def heapPush (l : List Int) (x : Int) : List Int := siftUp (l ++ [x]) l.length l.length
theorem heapPush_perm (l : List Int) (x : Int) : (heapPush l x).Perm (x :: l) := (siftUp_perm _ _ _ (by simp)).trans List.perm_append_comm
theorem getD_app (l : List Int) (x : Int) (i : Nat) (h : i < l.length) : (l ++ [x]).getD i 0 = l.getD i 0 := by simp [List.getD, List.getElem?_append_left h]
theorem heapPush_heap (l : List Int) (x : Int) (h : IsHeap l) : IsHeap (heapPush l x) := by
  refine siftUp_heap _ _ _ (by simp) (Nat.le_refl _) ?_ ?_
  · intro j hj hjl hne
    have hj' : j < l.length := by simp at hjl; omega
    rw [getD_app l x j hj', getD_app l x _ (by omega)]
    exact h j hj hj'
  · intro c hc hcl hce h0
    simp at hcl; omega

/-- the first one taken out: the last one in its place, sifted down -/
def heapPop (l : List Int) : List Int := siftDown ((l.set 0 (l.getD (l.length - 1) 0)).take (l.length - 1)) (l.length - 1) 0
theorem pop_at (l : List Int) (i : Nat) (hi : i < l.length - 1) : ((l.set 0 (l.getD (l.length - 1) 0)).take (l.length - 1)).getD i 0 = if i = 0 then l.getD (l.length - 1) 0 else l.getD i 0 := by
  simp only [List.getD, List.getElem?_take, hi, if_true, List.getElem?_set]
  by_cases e : i = 0
  · subst e; simp; rw [if_pos (by omega)]; simp
  · rw [if_neg (fun h => e h.symm), if_neg e]
theorem heapPop_heap (l : List Int) (h : IsHeap l) : IsHeap (heapPop l) := by
  unfold heapPop
  have hl : ((l.set 0 (l.getD (l.length - 1) 0)).take (l.length - 1)).length = l.length - 1 := by simp
  by_cases h0 : l.length - 1 = 0
  · intro j hj hjl
    rw [siftDown_len, hl] at hjl; omega
  · refine siftDown_heap _ _ _ (by rw [hl]; omega) (by rw [hl]; omega) ?_ ?_
    · intro j hj hjl hne
      rw [hl] at hjl
      rw [pop_at l j hjl, pop_at l _ (by omega), if_neg (by omega), if_neg (by omega)]
      exact h j hj (by omega)
    · intro c hc hcl hce hi0; omega
theorem heapPop_perm (l : List Int) (h : 0 < l.length) : (l.getD 0 0 :: heapPop l).Perm l := by
  unfold heapPop
  have hl : ((l.set 0 (l.getD (l.length - 1) 0)).take (l.length - 1)).length = l.length - 1 := by simp
  have key : (l.getD 0 0 :: (l.set 0 (l.getD (l.length - 1) 0)).take (l.length - 1)).Perm l := by
    cases l with
    | nil => simp at h
    | cons a t =>
      rcases List.eq_nil_or_concat t with rfl | ⟨t, b, rfl⟩
      · simp
      · simp [List.getD]
        exact List.perm_append_comm (l₁ := [b])
  by_cases h0 : l.length - 1 = 0
  · rw [h0] at key ⊢
    exact key
  · exact (List.Perm.cons _ (siftDown_perm _ _ _ (by rw [hl]; omega))).trans key
theorem heapPop_len (l : List Int) : (heapPop l).length = l.length - 1 := by unfold heapPop; rw [siftDown_len]; simp
theorem heapPush_len (l : List Int) (x : Int) : (heapPush l x).length = l.length + 1 := by unfold heapPush; rw [siftUp_len]; simp
end Go.Proofs.Ythnlkahgmbadoaa
