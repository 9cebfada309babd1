/- PoolNumbers, as walked. -/
import Derived.Test.YtmflapajjghpmaaPoolAwake
import Derived.Test.YtmflapajjghpmaaPoolNumA
namespace Go.Proofs.Ytmflapajjghpmaa
open Go.RowKit

/-- so many objects of size 0, in the greatest pool -/
def stZ (k : Nat) : PS := ⟨1073741824, 0, k, List.replicate k 0, []⟩
theorem stZ_take (k : Nat) (hk : k < 65536) : takeP (stZ k) 0 = (stZ (k + 1), (k : Int) + 1, 0) := by
  unfold takeP stZ
  rw [if_neg (by decide), if_neg (by rintro (h | h) <;> dsimp only at h <;> omega), if_pos (by rfl)]
  simp only [List.length_replicate, List.replicate_succ', Int.add_zero]
  rfl
theorem stZ_full : takeP (stZ 65536) 0 = (stZ 65536, 0, 5) := by
  unfold takeP
  rw [if_neg (by decide), if_pos (.inr rfl)]
theorem getD_rep (n j : Nat) : (List.replicate n (0 : Int)).getD j 0 = 0 := by
  simp only [List.getD, List.getElem?_replicate]
  split <;> rfl
theorem stZ_in : sizeP (stZ 65536) 65536 = (0, true) := by
  have h : hasP (stZ 65536) 65536 = true := by
    unfold hasP stZ
    dsimp only
    rw [getD_rep, List.length_replicate]; rfl
  unfold sizeP
  rw [if_pos h]
  show ((stZ 65536).sizes.getD _ 0, true) = _
  unfold stZ
  dsimp only
  rw [getD_rep]
theorem stZ_out : sizeP (stZ 65536) 65537 = (0, false) := by
  have h : hasP (stZ 65536) 65537 = false := by
    unfold hasP stZ
    dsimp only
    rw [List.length_replicate]; rfl
  unfold sizeP
  rw [if_neg (by rw [h]; decide)]

/-- the sizes behind some gives and takes: all but a few are 0 -/
def stL (l : List Int) (u c : Int) (fr : List Int) : PS := ⟨1073741824, u, c, l, fr⟩
theorem has_L {l : List Int} {u c : Int} {fr : List Int} {id : Int} (hl : l.length = 65536) (h1 : 1 ≤ id) (h2 : id ≤ 65536) (h0 : l.getD (id - 1).toNat 0 = 0) : hasP (stL l u c fr) id = true := by
  unfold hasP stL
  dsimp only
  rw [h0, hl, decide_eq_true h1, decide_eq_true (show id ≤ ((65536 : Nat) : Int) from h2)]; rfl
theorem give_L {l : List Int} {u c : Int} {fr : List Int} {id : Int} (hl : l.length = 65536) (h1 : 1 ≤ id) (h2 : id ≤ 65536) (h0 : l.getD (id - 1).toNat 0 = 0) :
    giveP (stL l u c fr) id = (stL (l.set (id - 1).toNat (-1)) u (c - 1) (heapPush fr id), 0) := by
  unfold giveP
  rw [if_pos (has_L hl h1 h2 h0)]
  unfold stL
  dsimp only
  rw [h0, Int.sub_zero]
theorem take_L {l : List Int} {u c : Int} {fr : List Int} {s : Int} (hs : 0 ≤ s) (hu : u + s ≤ 1073741824) (hc : c < 65536) (hf : fr.length ≠ 0) :
    takeP (stL l u c fr) s = (stL (l.set (fr.getD 0 0 - 1).toNat s) (u + s) (c + 1) (heapPop fr), fr.getD 0 0, 0) := by
  unfold takeP stL
  rw [if_neg (by omega), if_neg (by rintro (h | h) <;> dsimp only at h <;> omega), if_neg hf]

theorem set_other {l : List Int} {i j : Nat} {x : Int} (h : i ≠ j) : (l.set i x).getD j 0 = l.getD j 0 := by
  simp only [List.getD, List.getElem?_set, if_neg h]
/-- the three gives, the three takes -/
theorem six_steps : ∃ s1 s2 s3 s4 s5 s6 : PS, giveP (stZ 65536) 700 = (s1, 0) ∧ giveP s1 70 = (s2, 0) ∧ giveP s2 7000 = (s3, 0) ∧ takeP s3 5 = (s4, 70, 0) ∧ takeP s4 6 = (s5, 700, 0) ∧ takeP s5 7 = (s6, 7000, 0) ∧ s6.used = 18 := by
  have hz : stZ 65536 = stL (List.replicate 65536 0) 0 65536 [] := rfl
  rw [hz]
  obtain ⟨l, hl⟩ : ∃ l : List Int, l = List.replicate 65536 0 := ⟨_, rfl⟩
  have h0 : l.length = 65536 := by rw [hl, List.length_replicate]
  have hg : ∀ j, l.getD j 0 = 0 := fun j => by rw [hl, getD_rep]
  rw [← hl]
  clear hl hz
  have f3 : heapPush (heapPush (heapPush [] 700) 70) 7000 = [70, 700, 7000] := by decide
  have f4 : heapPop [70, 700, 7000] = [700, 7000] := by decide
  have f5 : heapPop [700, 7000] = [7000] := by decide
  have g1 := give_L (l := l) (u := 0) (c := 65536) (fr := []) (id := 700) h0 (by decide) (by decide) (hg _)
  have g2 := give_L (l := l.set (700 - 1 : Int).toNat (-1)) (u := 0) (c := 65536 - 1) (fr := heapPush [] 700) (id := 70) (by rw [List.length_set, h0]) (by decide) (by decide) ((set_other (by decide)).trans (hg _))
  have g3 := give_L (l := (l.set (700 - 1 : Int).toNat (-1)).set (70 - 1 : Int).toNat (-1)) (u := 0) (c := 65536 - 1 - 1) (fr := heapPush (heapPush [] 700) 70) (id := 7000) (by rw [List.length_set, List.length_set, h0]) (by decide) (by decide) ((set_other (by decide)).trans ((set_other (by decide)).trans (hg _)))
  rw [f3] at g3
  obtain ⟨l3, hl3⟩ : ∃ x, x = ((l.set (700 - 1 : Int).toNat (-1)).set (70 - 1 : Int).toNat (-1)).set (7000 - 1 : Int).toNat (-1) := ⟨_, rfl⟩
  rw [← hl3] at g3
  have k1 := take_L (l := l3) (u := 0) (c := 65536 - 1 - 1 - 1) (fr := [70, 700, 7000]) (s := 5) (by decide) (by decide) (by decide) (by decide)
  rw [f4] at k1
  obtain ⟨l4, hl4⟩ : ∃ x, x = l3.set (([70, 700, 7000] : List Int).getD 0 0 - 1).toNat 5 := ⟨_, rfl⟩
  rw [← hl4] at k1
  have k2 := take_L (l := l4) (u := 0 + 5) (c := 65536 - 1 - 1 - 1 + 1) (fr := [700, 7000]) (s := 6) (by decide) (by decide) (by decide) (by decide)
  rw [f5] at k2
  obtain ⟨l5, hl5⟩ : ∃ x, x = l4.set (([700, 7000] : List Int).getD 0 0 - 1).toNat 6 := ⟨_, rfl⟩
  rw [← hl5] at k2
  have k3 := take_L (l := l5) (u := 0 + 5 + 6) (c := 65536 - 1 - 1 - 1 + 1 + 1) (fr := [7000]) (s := 7) (by decide) (by decide) (by decide) (by decide)
  exact ⟨_, _, _, _, _, _, g1, g2, g3, k1, k2, k3, rfl⟩
theorem first_steps : takeP ⟨1073741824, 0, 0, [], []⟩ 1073741824 = (⟨1073741824, 1073741824, 1, [1073741824], []⟩, 1, 0) := by
  unfold takeP
  rw [if_neg (by decide), if_neg (by decide), if_pos (by rfl)]; rfl
/-- all of this of states that are not looked into -/
theorem num_states : ∃ (S : Nat → PS) (s1 s2 s3 s4 s5 s6 : PS), S 1 = ⟨1073741824, 0, 1, [0], []⟩ ∧ (∀ k, k < 65536 → takeP (S k) 0 = (S (k + 1), (k : Int) + 1, 0)) ∧ takeP (S 65536) 0 = (S 65536, 0, 5) ∧ sizeP (S 65536) 65536 = (0, true) ∧ sizeP (S 65536) 65537 = (0, false) ∧ (S 65536).count = 65536 ∧
    giveP (S 65536) 700 = (s1, 0) ∧ giveP s1 70 = (s2, 0) ∧ giveP s2 7000 = (s3, 0) ∧ takeP s3 5 = (s4, 70, 0) ∧ takeP s4 6 = (s5, 700, 0) ∧ takeP s5 7 = (s6, 7000, 0) ∧ s6.used = 18 := by
  obtain ⟨s1, s2, s3, s4, s5, s6, h⟩ := six_steps
  exact ⟨stZ, s1, s2, s3, s4, s5, s6, rfl, stZ_take, stZ_full, stZ_in, stZ_out, rfl, h⟩
end Go.Proofs.Ytmflapajjghpmaa
