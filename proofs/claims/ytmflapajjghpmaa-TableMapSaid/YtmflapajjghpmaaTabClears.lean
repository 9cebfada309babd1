/- TableClears: the run. -/
import Derived.Test.YtmflapajjghpmaaTabLaw0
namespace Go.Proofs.Ytmflapajjghpmaa
open Go.RowKit
set_option linter.unusedSimpArgs false
set_option linter.unusedVariables false

/-! ### plain -/
def killed (l : List (VV × VV)) (i : Nat) : List (VV × VV) := (l.take i).map (fun p => (p.1, ((0 : Int), (0 : Int)))) ++ l.drop i
theorem killed_len (l : List (VV × VV)) (i : Nat) : (killed l i).length = l.length := by
  unfold killed; rw [List.length_append, List.length_map, List.length_take, List.length_drop]; omega
theorem killed_lt {l : List (VV × VV)} {i j : Nat} {p : VV × VV} (hj : j < i) (hp : l[j]? = some p) : (killed l i)[j]? = some (p.1, (0, 0)) := by
  have hjl := (List.getElem?_eq_some_iff.1 hp).1
  unfold killed
  rw [List.getElem?_append_left (by rw [List.length_map, List.length_take]; omega), List.getElem?_map, List.getElem?_take, if_pos hj, hp]; rfl
theorem killed_ge {l : List (VV × VV)} {i j : Nat} (hj : i ≤ j) (hi : i ≤ l.length) : (killed l i)[j]? = l[j]? := by
  unfold killed
  rw [List.getElem?_append_right (by rw [List.length_map, List.length_take]; omega), List.length_map, List.length_take, Nat.min_eq_left hi, List.getElem?_drop]
  congr 1; omega
theorem killed_next {l : List (VV × VV)} {i : Nat} {p : VV × VV} (hp : l[i]? = some p) : (killed l i).set i (p.1, (0, 0)) = killed l (i + 1) := by
  have hil := (List.getElem?_eq_some_iff.1 hp).1
  refine List.ext_getElem? fun j => ?_
  rw [List.getElem?_set, killed_len]
  by_cases e : i = j
  · subst e
    rw [if_pos rfl, if_pos hil, killed_lt (Nat.lt_succ_self i) hp]
  · rw [if_neg e]
    rcases Nat.lt_or_ge j i with h | h
    · obtain ⟨q, hq⟩ : ∃ q, l[j]? = some q := ⟨_, List.getElem?_eq_getElem (by omega)⟩
      rw [killed_lt h hq, killed_lt (by omega) hq]
    · rw [killed_ge h (by omega), killed_ge (by omega) (by omega)]
theorem kv_keys : ∀ (l m : List (VV × VV)) (b : Nat), l.map Prod.fst = m.map Prod.fst → kvFrom b l = kvFrom b m
  | [], [], b, h => rfl
  | [], q :: m, b, h => by simp at h
  | p :: l, [], b, h => by simp at h
  | p :: l, q :: m, b, h => by
    simp only [List.map_cons, List.cons.injEq] at h
    simp only [kvFrom, h.1, kv_keys l m (b + 1) h.2]
theorem killed_keys (l : List (VV × VV)) (i : Nat) : (killed l i).map Prod.fst = l.map Prod.fst := by
  unfold killed
  rw [List.map_append, List.map_map, show (Prod.fst ∘ fun p : VV × VV => (p.1, ((0 : Int), (0 : Int)))) = Prod.fst from rfl, ← List.map_append, List.take_append_drop]
theorem kv_at {l : List (VV × VV)} (hnd : (l.map Prod.fst).Nodup) {r : Nat} {p : VV × VV} (hp : l[r]? = some p) : findK p.1 (kvFrom 0 l) 0 = some (r, .int .i64 (.ofNat r)) := by
  rcases kv_find p.1 l 0 0 with ⟨h1, h2⟩ | ⟨r', v, h1, h2, h3⟩
  · have := List.find?_eq_none.1 h2 p (List.mem_of_getElem? hp)
    simp at this
  · have e1 : (l.map Prod.fst)[r]? = some p.1 := by rw [List.getElem?_map, hp]; rfl
    have e2 : (l.map Prod.fst)[r']? = some p.1 := by rw [List.getElem?_map, h1]; rfl
    have hlt := (List.getElem?_eq_some_iff.1 h1).1
    have := (List.getElem?_inj (i := r') (j := r) (by simpa using hlt) hnd).1 (by rw [e1, e2])
    subst this
    rw [h2]; simp
theorem pos_at {l : List (VV × VV)} (hnd : (l.map Prod.fst).Nodup) {r : Nat} {p : VV × VV} (hp : l[r]? = some p) : posL l p.1 = some r := by unfold posL; rw [kv_at hnd hp]; rfl
/-- going on from place i - 1 of a table whose first i places are dead -/
theorem next_killed {l : List (VV × VV)} (hlive : ∀ p ∈ l, p.2.1 = 3) {i : Nat} (hi : i ≤ l.length) : nextFrom (killed l i) i = match l[i]? with
    | some p => (p.1, p.2, 0)
    | none => ((0, 0), (0, 0), 0) := by
  have hd : (killed l i).drop i = l.drop i := by
    unfold killed
    rw [List.drop_append_of_le_length (by rw [List.length_map, List.length_take]; omega), List.drop_of_length_le (by rw [List.length_map, List.length_take]; omega), List.nil_append]
  unfold nextFrom
  rw [hd]
  cases hp : l[i]? with
  | none =>
    have : l.length ≤ i := List.getElem?_eq_none_iff.1 hp
    rw [List.drop_of_length_le this]; rfl
  | some p =>
    have hil := (List.getElem?_eq_some_iff.1 hp).1
    have he : l.drop i = p :: l.drop (i + 1) := by
      rw [List.drop_eq_getElem_cons hil]
      congr 1
      exact (List.getElem?_eq_some_iff.1 hp).2
    have hpl : (!isDead p) = true := by
      have := hlive p (List.mem_of_getElem? hp)
      simp [isDead, this]
    rw [he, firstIx_cons, if_pos hpl]
    simp only [Nat.add_zero]
    rw [killed_ge (Nat.le_refl i) hi, hp]
/-- the key of the place ahead of place i -/
def atKey (l : List (VV × VV)) : Nat → VV
  | 0 => (0, 0)
  | i + 1 => ((l[i]?).map Prod.fst).getD (0, 0)
theorem next_at {l : List (VV × VV)} (hnd : (l.map Prod.fst).Nodup) (hlive : ∀ p ∈ l, p.2.1 = 3) (hkind : ∀ p ∈ l, p.1.1 = 3) {i : Nat} (hi : i ≤ l.length) : nextL (killed l i) (atKey l i) = match l[i]? with
    | some p => (p.1, p.2, 0)
    | none => ((0, 0), (0, 0), 0) := by
  rw [← next_killed hlive hi]
  cases i with
  | zero => rfl
  | succ i =>
    obtain ⟨q, hq⟩ : ∃ q, l[i]? = some q := ⟨_, List.getElem?_eq_getElem (by omega)⟩
    have hk := hkind q (List.mem_of_getElem? hq)
    have ha : atKey l (i + 1) = q.1 := by
      show ((l[i]?).map Prod.fst).getD (0, 0) = q.1
      rw [hq]; rfl
    have hf := kv_at hnd hq
    unfold nextL
    rw [ha, if_neg (by rw [hk]; decide), kv_keys _ l 0 (killed_keys l (i + 1)), hf]
theorem set_killed {l : List (VV × VV)} (hnd : (l.map Prod.fst).Nodup) {i : Nat} {p : VV × VV} (hp : l[i]? = some p) : setL (killed l i) p.1 (0, 0) = killed l (i + 1) := by
  have hi := (List.getElem?_eq_some_iff.1 hp).1
  have h1 : (killed l i)[i]? = some p := by rw [killed_ge (Nat.le_refl i) (by omega)]; exact hp
  have h2 := pos_at (by rw [killed_keys]; exact hnd) h1
  unfold setL
  rw [h2]
  exact killed_next hp
theorem killed_all (l : List (VV × VV)) : ∀ p ∈ killed l l.length, p.2 = (0, 0) := by
  intro p hp
  unfold killed at hp
  rw [List.drop_length, List.append_nil] at hp
  obtain ⟨q, _, rfl⟩ := List.mem_map.1 hp
  rfl
end Go.Proofs.Ytmflapajjghpmaa
