/- The document's pool, as plain lists of numbers and sizes, and that it answers as the program's does. Plain. -/
import Derived.Test.YticeabhilkceiaaPoolKeep
namespace Go.Proofs.Yticeabhilkceiaa
set_option linter.unusedSimpArgs false
set_option linter.unusedVariables false

def sumL : List Int → Int
  | [] => 0
  | x :: l => x + sumL l
def placeN : List Int → Int → Nat → Option Nat
  | [], _, _ => none
  | x :: l, id, i => if x = id then some i else placeN l id (i + 1)
def gapN : List Int → Nat → Nat
  | [], k => k
  | x :: l, k => if x = (k : Int) + 1 then gapN l (k + 1) else k
def pres (l : List Int) : List Int := l.filter fun x => decide (0 ≤ x)
def takeL (bound : Int) (ids sizes : List Int) (size : Int) : (List Int × List Int) × Int × Int :=
  if size < 0 then ((ids, sizes), 0, 2)
  else if bound < size ∨ bound < sumL sizes + size ∨ 65536 ≤ ids.length then ((ids, sizes), 0, 5)
  else ((ids.take (gapN ids 0) ++ ((gapN ids 0 : Nat) + 1 : Int) :: ids.drop (gapN ids 0), sizes.take (gapN ids 0) ++ size :: sizes.drop (gapN ids 0)), (gapN ids 0 : Nat) + 1, 0)
def giveL (ids sizes : List Int) (id : Int) : (List Int × List Int) × Int := match placeN ids id 0 with
  | none => ((ids, sizes), 2)
  | some k => ((ids.eraseIdx k, sizes.eraseIdx k), 0)
def resizeL (bound : Int) (ids sizes : List Int) (id size : Int) : (List Int × List Int) × Int := match placeN ids id 0 with
  | none => ((ids, sizes), 2)
  | some k => if size < 0 then ((ids, sizes), 2) else if bound < size ∨ bound < sumL sizes - sizes.getD k 0 + size then ((ids, sizes), 5) else ((ids, sizes.set k size), 0)
def sizeL (ids sizes : List Int) (id : Int) : Int × Bool := match placeN ids id 0 with
  | none => (0, false)
  | some k => (sizes.getD k 0, true)

theorem ids_app : ∀ (a b : List Int) (i : Nat), idsFrom (a ++ b) i = idsFrom a i ++ idsFrom b (i + a.length)
  | [], b, i => rfl
  | s :: a, b, i => by
    have := ids_app a b (i + 1)
    simp only [List.cons_append, idsFrom, this, List.length_cons]
    rw [show i + 1 + a.length = i + (a.length + 1) from by omega]
    split <;> rfl
theorem pres_app (a b : List Int) : pres (a ++ b) = pres a ++ pres b := List.filter_append ..
theorem ids_len : ∀ (l : List Int) (i : Nat), (idsFrom l i).length = (pres l).length
  | [], i => rfl
  | s :: l, i => by
    have := ids_len l (i + 1)
    unfold pres at this ⊢
    by_cases h : 0 ≤ s
    · simp only [idsFrom, h, if_true, List.filter_cons, decide_true, List.length_cons, this]
    · simp only [idsFrom, h, if_false, List.filter_cons, decide_false, Bool.false_eq_true, this]
theorem sum_pres : ∀ l : List Int, sumL (pres l) = usedOf l
  | [] => rfl
  | s :: l => by
    have := sum_pres l
    unfold pres at this ⊢
    by_cases h : 0 ≤ s
    · simp only [usedOf, h, if_true, List.filter_cons, decide_true, sumL, this]
    · simp only [usedOf, h, if_false, List.filter_cons, decide_false, Bool.false_eq_true, this]
theorem ids_in : ∀ (l : List Int) (i : Nat) (x : Int), x ∈ idsFrom l i → (i : Int) + 1 ≤ x ∧ x ≤ i + l.length
  | [], i, x, h => by simp [idsFrom] at h
  | s :: l, i, x, h => by
    simp only [idsFrom] at h
    have ih := ids_in l (i + 1) x
    simp only [List.length_cons]
    split at h
    · rcases List.mem_cons.1 h with h | h
      · omega
      · have := ih h; omega
    · have := ih h; omega
theorem place_app : ∀ (a b : List Int) (id : Int) (i : Nat), id ∉ a → placeN (a ++ b) id i = placeN b id (i + a.length)
  | [], b, id, i, _ => rfl
  | x :: a, b, id, i, h => by
    simp only [List.cons_append, placeN]
    rw [if_neg (fun e => h (by simp [e])), place_app a b id (i + 1) (fun e => h (by simp [e])), List.length_cons, show i + 1 + a.length = i + (a.length + 1) from by omega]
theorem place_none : ∀ (l : List Int) (id : Int) (i : Nat), id ∉ l → placeN l id i = none
  | [], _, _, _ => rfl
  | x :: l, id, i, h => by
    simp only [placeN]
    rw [if_neg (fun e => h (by simp [e]))]
    exact place_none l id (i + 1) (fun e => h (by simp [e]))
theorem split_at {l : List Int} {j : Nat} (h : j < l.length) : ∃ a s b, l = a ++ s :: b ∧ a.length = j ∧ s = l.getD j 0 := by
  refine ⟨l.take j, l[j], l.drop (j + 1), ?_, by rw [List.length_take]; omega, by simp [List.getD, h]⟩
  conv => lhs; rw [← List.take_append_drop j l, List.drop_eq_getElem_cons h]
/-- where an object stands in the document's lists -/
theorem place_has {st : PS} {id : Int} : (hasP st id = true → ∃ a s b, st.sizes = a ++ s :: b ∧ id = (a.length : Int) + 1 ∧ 0 ≤ s ∧ placeN (idsP st) id 0 = some (pres a).length ∧ s = st.sizes.getD (id - 1).toNat 0 ∧ (id - 1).toNat = a.length) ∧ (hasP st id = false → placeN (idsP st) id 0 = none) := by
  constructor
  · intro h
    unfold hasP at h
    simp only [Bool.and_eq_true, decide_eq_true_eq] at h
    obtain ⟨⟨h1, h2⟩, h3⟩ := h
    have hj : (id - 1).toNat < st.sizes.length := by omega
    obtain ⟨a, s, b, e, e2, e3⟩ := split_at hj
    have h0 : 0 ≤ s := by rw [e3]; exact h3
    have hid : id = (a.length : Int) + 1 := by omega
    refine ⟨a, s, b, e, hid, h0, ?_, e3, e2.symm⟩
    unfold idsP
    rw [e, ids_app, place_app _ _ _ _ (fun hm => by have := ids_in _ _ _ hm; omega), ids_len]
    simp only [idsFrom, h0, if_true, placeN, Nat.zero_add]
    rw [if_pos (by rw [hid])]
  · intro h
    refine place_none _ _ _ fun hm => ?_
    unfold idsP at hm
    have hr := ids_in _ _ _ hm
    have hj : (id - 1).toNat < st.sizes.length := by omega
    obtain ⟨a, s, b, e, e2, e3⟩ := split_at hj
    have hs : ¬ 0 ≤ s := fun h0 => by
      unfold hasP at h
      rw [← e3] at h
      simp only [Bool.and_eq_false_iff, decide_eq_false_iff_not] at h
      omega
    rw [e, ids_app] at hm
    simp only [idsFrom, hs, if_false, List.mem_append] at hm
    rcases hm with hm | hm
    · have := ids_in _ _ _ hm; omega
    · have := ids_in _ _ _ hm; omega
theorem get_mid (a : List Int) (s : Int) (b : List Int) : (a ++ s :: b).getD a.length 0 = s := by simp [List.getD]
theorem pres_cons_in {s : Int} (h : 0 ≤ s) (b : List Int) : pres (s :: b) = s :: pres b := by unfold pres; simp [h]
theorem pres_cons_out {s : Int} (h : ¬ 0 ≤ s) (b : List Int) : pres (s :: b) = pres b := by unfold pres; simp [h]
theorem size_rel (st : PS) (id : Int) : sizeL (idsP st) (pres st.sizes) id = sizeP st id := by
  unfold sizeL sizeP
  cases h : hasP st id with
  | false => rw [place_has.2 h]; rfl
  | true =>
    obtain ⟨a, s, b, e, e1, e2, e3, e4, e5⟩ := place_has.1 h
    rw [e3]
    simp only [if_true]
    rw [← e4]
    congr 1
    rw [e, pres_app, pres_cons_in e2, get_mid]
theorem set_mid (a : List Int) (s x : Int) (b : List Int) : (a ++ s :: b).set a.length x = a ++ x :: b := by
  rw [List.set_append_right _ _ (Nat.le_refl _), Nat.sub_self]; rfl
theorem erase_mid (a : List Int) (s : Int) (b : List Int) : (a ++ s :: b).eraseIdx a.length = a ++ b := by
  rw [List.eraseIdx_append_of_length_le (Nat.le_refl _), Nat.sub_self]; rfl
theorem give_rel (st : PS) (id : Int) : giveL (idsP st) (pres st.sizes) id = ((idsP (giveP st id).1, pres (giveP st id).1.sizes), (giveP st id).2) := by
  unfold giveL giveP
  cases h : hasP st id with
  | false => rw [place_has.2 h]; rfl
  | true =>
    obtain ⟨a, s, b, e, e1, e2, e3, e4, e5⟩ := place_has.1 h
    rw [e3]
    simp only [if_true, idsP, e5]
    rw [e, set_mid, pres_app, pres_app, pres_cons_in e2, pres_cons_out (by decide), ids_app, ids_app, erase_mid]
    simp only [idsFrom, e2, if_true]
    rw [← ids_len a 0, erase_mid, if_neg (by decide)]
theorem resize_rel {st : PS} (hG : Good st) (id size : Int) : resizeL st.bound (idsP st) (pres st.sizes) id size = ((idsP (resizeP st id size).1, pres (resizeP st id size).1.sizes), (resizeP st id size).2) := by
  unfold resizeL resizeP
  cases h : hasP st id with
  | false => rw [place_has.2 h]; simp
  | true =>
    obtain ⟨a, s, b, e, e1, e2, e3, e4, e5⟩ := place_has.1 h
    have hle := hG.le
    have hu : usedOf st.sizes = st.used := hG.used.symm
    have hs : s ≤ st.used := by
      rw [← hu, e4]
      exact usedOf_at _ _ (by rw [e, e5]; simp) (by rw [← e4]; exact e2)
    have hp : (pres st.sizes).getD (pres a).length 0 = s := by rw [e, pres_app, pres_cons_in e2, get_mid]
    rw [e3]
    simp only [hp, sum_pres, hu, ← e4]
    by_cases h1 : size < 0
    · simp [h1]
    · rw [if_neg h1, if_neg (show ¬ (true = false ∨ size < 0) from fun e => e.elim (fun e => by cases e) h1)]
      by_cases h2 : st.bound - st.used + s < size
      · rw [if_pos h2, if_pos (by omega)]
      · rw [if_neg h2, if_neg (by omega)]
        simp only [idsP, e5]
        rw [e, set_mid, pres_app, pres_app, pres_cons_in e2, pres_cons_in (by omega), set_mid, ids_app, ids_app]
        simp only [idsFrom, e2, if_true]
        rw [if_pos (show 0 ≤ size by omega)]
theorem gap_full : ∀ (a : List Int) (r : List Int) (i : Nat), (∀ s ∈ a, 0 ≤ s) → (∀ x ∈ r, (i : Int) + a.length + 1 < x) → gapN (idsFrom a i ++ r) i = i + a.length
  | [], [], i, _, _ => rfl
  | [], x :: r, i, _, hr => by
    have := hr x (by simp)
    simp only [List.length_nil] at this
    simp only [idsFrom, List.nil_append, gapN, List.length_nil, Nat.add_zero]
    rw [if_neg (by omega)]
  | s :: a, r, i, ha, hr => by
    have h0 := ha s (by simp)
    simp only [idsFrom, h0, if_true, List.cons_append, gapN]
    rw [gap_full a r (i + 1) (fun x hx => ha x (by simp [hx])) (fun x hx => by have := hr x hx; simp only [List.length_cons] at this; omega), List.length_cons]
    omega
theorem pres_full {a : List Int} (h : ∀ s ∈ a, 0 ≤ s) : pres a = a := by unfold pres; exact List.filter_eq_self.2 fun s hs => by simpa using h s hs
theorem take_rel {st : PS} (hG : Good st) (size : Int) : takeL st.bound (idsP st) (pres st.sizes) size = ((idsP (takeP st size).1, pres (takeP st size).1.sizes), (takeP st size).2) := by
  have hu : usedOf st.sizes = st.used := hG.used.symm
  have hu0 := hG.used0
  have hcnt := hG.count
  have hc := hG.cnt
  have hlen := hG.len
  have hle := hG.le
  have hil : (idsP st).length = (idsFrom st.sizes 0).length := rfl
  unfold takeL takeP
  rw [sum_pres, hu]
  by_cases h1 : size < 0
  · rw [if_pos h1, if_pos h1]
  · rw [if_neg h1, if_neg h1]
    by_cases h2 : st.bound - st.used < size ∨ st.count = 65536
    · rw [if_pos h2, if_pos (by omega)]
    · rw [if_neg h2, if_neg (by omega)]
      by_cases h4 : st.free.length = 0
      · rw [if_pos h4]
        have hall : ∀ s ∈ st.sizes, 0 ≤ s := fun s hs => by
          obtain ⟨j, hj, e⟩ := List.getElem_of_mem hs
          false_or_by_contra
          have hm := (free_mem st.sizes 0 (0 + j + 1)).2 ⟨j, hj, by simp [List.getD, hj, e]; omega, by omega⟩
          have := hG.free.symm.mem_iff.1 hm
          rw [List.eq_nil_of_length_eq_zero h4] at this
          simp at this
        have hg : gapN (idsP st) 0 = st.sizes.length := by
          have := gap_full st.sizes [] 0 hall (by simp)
          rw [List.append_nil, Nat.zero_add] at this
          exact this
        have hl : (idsP st).length = st.sizes.length := by unfold idsP; rw [ids_len, pres_full hall]
        rw [hg, pres_full hall]
        simp only [idsP]
        rw [ids_app, pres_app, pres_full hall, pres_cons_in (by omega), List.take_of_length_le (by unfold idsP at hl; omega), List.drop_of_length_le (by unfold idsP at hl; omega), List.take_of_length_le (Nat.le_refl _), List.drop_of_length_le (Nat.le_refl _)]
        simp only [idsFrom]
        rw [if_pos (show 0 ≤ size by omega), Nat.zero_add]; rfl
      · rw [if_neg h4]
        obtain ⟨j, hj1, hj2, hj3, hj4⟩ := hG.top (by omega)
        obtain ⟨a, s, b, e, e2, e3⟩ := split_at hj2
        have hall : ∀ s ∈ a, 0 ≤ s := fun x hx => by
          obtain ⟨q, hq, ex⟩ := List.getElem_of_mem hx
          false_or_by_contra
          have hm := (free_mem st.sizes 0 (0 + q + 1)).2 ⟨q, by rw [e]; simp; omega, by rw [e]; simp [List.getD, List.getElem?_append_left hq, hq, ex]; omega, by omega⟩
          have := hj4 _ hm
          omega
        have hs : ¬ 0 ≤ s := by rw [e3]; omega
        have hids : idsP st = idsFrom a 0 ++ idsFrom b (j + 1) := by
          unfold idsP
          rw [e, ids_app]
          simp only [idsFrom, hs, if_false, Nat.zero_add, e2]
        have hg : gapN (idsP st) 0 = j := by
          rw [hids, gap_full a _ 0 hall (fun x hx => by have := ids_in _ _ _ hx; omega), Nat.zero_add, e2]
        have hla : (idsFrom a 0).length = j := by rw [ids_len, pres_full hall, e2]
        rw [hg, hj1, hids]
        simp only [idsP, show ((j : Int) + 1 - 1).toNat = j from by omega]
        rw [e, pres_app, pres_cons_out hs, pres_full hall]
        rw [show (a ++ s :: b).set j size = a ++ size :: b from by rw [← e2]; exact set_mid _ _ _ _]
        rw [ids_app, pres_app, pres_cons_in (by omega), pres_full hall]
        simp only [idsFrom]
        rw [if_pos (show 0 ≤ size by omega), Nat.zero_add, e2, List.take_append_of_le_length (by omega), List.drop_append_of_le_length (by omega), List.take_of_length_le (by omega), List.drop_of_length_le (by omega), List.take_append_of_le_length (by omega), List.drop_append_of_le_length (by omega), List.take_of_length_le (by omega), List.drop_of_length_le (by omega)]
        rfl
end Go.Proofs.Yticeabhilkceiaa
