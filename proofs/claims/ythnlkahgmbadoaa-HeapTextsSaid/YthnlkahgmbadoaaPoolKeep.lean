/- Every call keeps a pool good. No program in sight. -/
import Derived.Test.YthnlkahgmbadoaaPoolPlain
namespace Go.Proofs.Ythnlkahgmbadoaa
set_option linter.unusedSimpArgs false
set_option linter.unusedVariables false

theorem ids_append : ∀ (l : List Int) (i : Nat) (x : Int), idsFrom (l ++ [x]) i = idsFrom l i ++ (if 0 ≤ x then [((i + l.length : Nat) : Int) + 1] else [])
  | [], i, x => by simp only [List.nil_append, idsFrom, List.length_nil, Nat.add_zero]
  | s :: l, i, x => by
    simp only [List.cons_append, idsFrom, ids_append l (i + 1) x, List.length_cons]
    have e : i + 1 + l.length = i + (l.length + 1) := by omega
    rw [e]
    split <;> simp
theorem free_append : ∀ (l : List Int) (i : Nat) (x : Int), freeFrom (l ++ [x]) i = freeFrom l i ++ (if 0 ≤ x then [] else [((i + l.length : Nat) : Int) + 1])
  | [], i, x => by simp only [List.nil_append, freeFrom, List.length_nil, Nat.add_zero]
  | s :: l, i, x => by
    simp only [List.cons_append, freeFrom, free_append l (i + 1) x, List.length_cons]
    have e : i + 1 + l.length = i + (l.length + 1) := by omega
    rw [e]
    split <;> simp
/-- an object goes: its number is free -/
theorem free_gone : ∀ (l : List Int) (i j : Nat) (x : Int), j < l.length → 0 ≤ l.getD j 0 → x < 0 → (freeFrom (l.set j x) i).Perm (((i : Int) + j + 1) :: freeFrom l i)
  | [], _, j, _, h, _, _ => by simp at h
  | s :: l, i, 0, x, _, h, hx => by
    simp [List.getD] at h
    simp only [List.set_cons_zero, freeFrom]
    rw [if_neg (by omega), if_pos h]
    simp
  | s :: l, i, j + 1, x, hj, h, hx => by
    have ih := free_gone l (i + 1) j x (by simpa using hj) (by simpa [List.getD] using h) hx
    have e : ((i + 1 : Nat) : Int) + j + 1 = (i : Int) + (j + 1 : Nat) + 1 := by omega
    rw [e] at ih
    simp only [List.set_cons_succ, freeFrom]
    split
    · exact ih
    · exact (ih.cons _).trans (List.Perm.swap ..)
theorem free_same : ∀ (l : List Int) (i j : Nat) (x : Int), j < l.length → (0 ≤ l.getD j 0 ↔ 0 ≤ x) → freeFrom (l.set j x) i = freeFrom l i ∧ idsFrom (l.set j x) i = idsFrom l i
  | [], _, j, _, h, _ => by simp at h
  | s :: l, i, 0, x, _, h => by
    simp [List.getD] at h
    simp only [List.set_cons_zero, freeFrom, idsFrom]
    constructor <;> (split <;> split <;> first | rfl | omega)
  | s :: l, i, j + 1, x, hj, h => by
    have ih := free_same l (i + 1) j x (by simpa using hj) (by simpa [List.getD] using h)
    simp only [List.set_cons_succ, freeFrom, idsFrom, ih.1, ih.2]
    constructor <;> trivial
theorem set_back (l : List Int) (j : Nat) (x : Int) (hj : j < l.length) : (l.set j x).set j (l.getD j 0) = l := by
  rw [List.set_set]
  apply List.ext_getElem?
  intro k
  rw [List.getElem?_set]
  split
  · next h => subst h; simp [List.getD, hj]
  · rfl
theorem getD_set (l : List Int) (j : Nat) (x : Int) (hj : j < l.length) : (l.set j x).getD j 0 = x := by simp [List.getD, hj]
/-- a free number is taken -/
theorem free_taken (l : List Int) (i j : Nat) (x : Int) (hj : j < l.length) (h : l.getD j 0 < 0) (hx : 0 ≤ x) : (freeFrom l i).Perm (((i : Int) + j + 1) :: freeFrom (l.set j x) i) := by
  have := free_gone (l.set j x) i j (l.getD j 0) (by simpa using hj) (by rw [getD_set _ _ _ hj]; exact hx) h
  rwa [set_back _ _ _ hj] at this
theorem low_set {l : List Int} {j : Nat} {x : Int} (h : ∀ s ∈ l, -1 ≤ s) (hx : -1 ≤ x) : ∀ s ∈ l.set j x, -1 ≤ s := by
  intro s hs
  rcases List.mem_or_eq_of_mem_set hs with h' | h'
  · exact h s h'
  · rw [h']; exact hx

theorem good_new (n : Int) (h0 : 0 ≤ n) (h1 : n ≤ 1073741824) : Good ⟨n, 0, 0, [], []⟩ :=
  ⟨h0, h1, rfl, h0, rfl, by simp, List.Perm.refl _, by intro i h h'; simp at h', by simp⟩

theorem Good.used0 {st : PS} (h : Good st) : 0 ≤ st.used := by rw [h.used]; exact usedOf_nonneg _
theorem Good.cnt {st : PS} (h : Good st) : 0 ≤ st.count ∧ st.count + st.free.length = st.sizes.length := by
  have := ids_free_len st.sizes 0
  have := h.free.length_eq
  have := h.count
  omega
/-- the top of the free ones is a number that is free, and the least of them -/
theorem Good.top {st : PS} (h : Good st) (hn : 0 < st.free.length) : ∃ j : Nat, st.free.getD 0 0 = (j : Int) + 1 ∧ j < st.sizes.length ∧ st.sizes.getD j 0 < 0 ∧ ∀ x ∈ freeFrom st.sizes 0, (j : Int) + 1 ≤ x := by
  have hm : st.free.getD 0 0 ∈ st.free := by rw [getD_lt _ _ hn]; exact List.getElem_mem _
  obtain ⟨j, hj, hs, he⟩ := (free_mem _ _ _).1 (h.free.mem_iff.1 hm)
  refine ⟨j, by rw [he]; omega, hj, hs, fun x hx => ?_⟩
  obtain ⟨i, hi, rfl⟩ := List.getElem_of_mem (h.free.mem_iff.2 hx)
  have := heap_least _ h.heap i hi
  rw [getD_lt _ i hi] at this
  omega

theorem Good.take {st : PS} (h : Good st) (size : Int) : Good (takeP st size).1 := by
  have hu := h.used0
  have hcn := h.cnt
  unfold takeP
  split
  · exact h
  · next h0 =>
    split
    · exact h
    · next h1 =>
      have h1a : ¬ st.bound - st.used < size := fun h => h1 (.inl h)
      have h1b : ¬ st.count = 65536 := fun h => h1 (.inr h)
      split
      · next h2 =>
        have h3 : st.sizes.length < 65536 := by
          have := h.len
          omega
        refine ⟨h.b0, h.b1, ?_, by dsimp only; omega, ?_, ?_, ?_, h.heap, by simp; omega⟩
        · dsimp only; rw [usedOf_append, if_pos (by omega), h.used]
        · dsimp only; rw [ids_append, if_pos (by omega), h.count]; simp
        · intro s hs
          rcases List.mem_append.1 hs with hs | hs
          · exact h.low s hs
          · simp at hs; omega
        · dsimp only; rw [free_append, if_pos (by omega), List.append_nil]; exact h.free
      · next h2 =>
        obtain ⟨j, hj, hjl, hneg, _⟩ := h.top (by omega)
        rw [hj, show ((j : Int) + 1 - 1).toNat = j from by omega]
        have hp := heapPop_perm st.free (by omega)
        rw [hj] at hp
        have ht := free_taken st.sizes 0 j size hjl hneg (by omega)
        rw [show ((0 : Nat) : Int) + (j : Int) + 1 = (j : Int) + 1 from by omega] at ht
        refine ⟨h.b0, h.b1, ?_, by dsimp only; omega, ?_, low_set h.low (by omega), ?_, heapPop_heap _ h.heap, by simpa using h.len⟩
        · dsimp only; rw [usedOf_set _ _ _ hjl, if_neg (by omega), if_pos (by omega), h.used]; omega
        · have a1 := ids_free_len st.sizes 0
          have a2 := ids_free_len (st.sizes.set j size) 0
          have a3 := ht.length_eq
          have a4 := h.count
          simp at a2 a3
          dsimp only; omega
        · exact (List.perm_cons _).1 (hp.trans (h.free.trans ht))

theorem Good.give {st : PS} (h : Good st) (id : Int) : Good (giveP st id).1 := by
  unfold giveP
  split
  · next hh =>
    simp only [hasP, Bool.and_eq_true, decide_eq_true_eq] at hh
    obtain ⟨⟨h1, h2⟩, h3⟩ := hh
    obtain ⟨j, hj⟩ : ∃ j : Nat, id = (j : Int) + 1 := ⟨(id - 1).toNat, by omega⟩
    subst hj
    rw [show ((j : Int) + 1 - 1).toNat = j from by omega] at h3 ⊢
    have hjl : j < st.sizes.length := by omega
    have hg := free_gone st.sizes 0 j (-1) hjl h3 (by omega)
    rw [show ((0 : Nat) : Int) + (j : Int) + 1 = (j : Int) + 1 from by omega] at hg
    have hle := h.le
    refine ⟨h.b0, h.b1, ?_, by dsimp only; omega, ?_, low_set h.low (by omega), ?_, heapPush_heap _ _ h.heap, by simpa using h.len⟩
    · dsimp only; rw [usedOf_set _ _ _ hjl, if_pos h3, if_neg (by omega), h.used]; omega
    · have a1 := ids_free_len st.sizes 0
      have a2 := ids_free_len (st.sizes.set j (-1)) 0
      have a3 := hg.length_eq
      have a4 := h.count
      simp at a2 a3
      dsimp only; omega
    · exact (heapPush_perm _ _).trans ((h.free.cons _).trans hg.symm)
  · exact h

theorem Good.resize {st : PS} (h : Good st) (id size : Int) : Good (resizeP st id size).1 := by
  unfold resizeP
  split
  · exact h
  · next h0 =>
    split
    · exact h
    · next h1 =>
      have hh : hasP st id = true := by cases e : hasP st id with
        | true => rfl
        | false => exact absurd (.inl e) h0
      have hs : ¬ size < 0 := fun e => h0 (.inr e)
      simp only [hasP, Bool.and_eq_true, decide_eq_true_eq] at hh
      obtain ⟨⟨h1', h2⟩, h3⟩ := hh
      obtain ⟨j, hj⟩ : ∃ j : Nat, id = (j : Int) + 1 := ⟨(id - 1).toNat, by omega⟩
      subst hj
      rw [show ((j : Int) + 1 - 1).toNat = j from by omega] at h1 h3 ⊢
      have hjl : j < st.sizes.length := by omega
      have hsm := free_same st.sizes 0 j size hjl (by omega)
      refine ⟨h.b0, h.b1, ?_, by dsimp only; omega, ?_, low_set h.low (by omega), ?_, h.heap, by simpa using h.len⟩
      · dsimp only; rw [usedOf_set _ _ _ hjl, if_pos h3, if_pos (by omega), h.used]; omega
      · dsimp only; rw [hsm.2]; exact h.count
      · dsimp only; rw [hsm.1]; exact h.free
end Go.Proofs.Ythnlkahgmbadoaa
