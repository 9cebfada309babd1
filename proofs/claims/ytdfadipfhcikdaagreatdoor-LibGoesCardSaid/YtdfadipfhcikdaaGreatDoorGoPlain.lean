/- LibGoes: what the law knows of its heap. Plain. -/
import Derived.Test.YtdfadipfhcikdaaGreatDoorHmSet
import Derived.Test.YtdfadipfhcikdaaGreatDoorTabNext
namespace Go.Proofs.YtdfadipfhcikdaaGreatDoor
open Go.RowKit
set_option linter.unusedSimpArgs false
set_option linter.unusedVariables false
set_option maxRecDepth 100000

def entK (ks : List Nat) : List (VV × VV) := ks.map fun k => ((3, Int.ofNat k + 1), (3, Int.ofNat k + 50))
def obG (ks : List Nat) : Ob := ⟨5, 1, ⟨#[]⟩, entK ks, (0, 0), 0, [], (0, 0)⟩
/-- the law's heap: one table -/
def hsG (ks : List Nat) : HS := ⟨100000, 1, false, ⟨100000, 2 + 2 * Int.ofNat ks.length, 1, [2 + 2 * Int.ofNat ks.length], []⟩, [(1, obG ks)], [], []⟩
theorem hsG_new : tableO (hs0 100000) = (hsG [], (5, 1), 0) := by rfl
theorem ofO_G (ks : List Nat) : ofO (hsG ks) (5, 1) 5 = some (obG ks) := by rfl
theorem find_G (ks : List Nat) : findO (hsG ks) (5, 1) = some (obG ks) := by rfl
theorem get_G (ks : List Nat) (k : VV) : getO (hsG ks) (5, 1) k = getL (entK ks) k := by rfl
theorem entK_len (ks : List Nat) : (entK ks).length = ks.length := by simp [entK]
theorem entK_at (ks : List Nat) (r : Nat) : (entK ks)[r]? = (ks[r]?).map fun k => ((3, Int.ofNat k + 1), (3, Int.ofNat k + 50)) := by simp [entK]
theorem live_K (ks : List Nat) : liveL (entK ks) = entK ks := by
  unfold liveL
  rw [List.filter_eq_self]
  intro p hp
  obtain ⟨k, _, rfl⟩ := List.mem_map.1 hp
  rfl
theorem liveN_K (ks : List Nat) : liveN (entK ks) = ks.length := by
  have h : ((entK ks).filter fun p => decide (p.2.1 ≠ 0)) = entK ks := by
    rw [List.filter_eq_self]
    intro p hp
    obtain ⟨k, _, rfl⟩ := List.mem_map.1 hp
    rfl
  unfold liveN
  rw [h, entK_len]
theorem find_K (ks : List Nat) (j : Nat) (i : Nat) : (j ∉ ks ∧ findK (3, Int.ofNat j + 1) (kvFrom 0 (entK ks)) 0 = none ∧ (entK ks).find? (fun p => p.1 = (3, Int.ofNat j + 1)) = none) ∨ ∃ r, ks[r]? = some j ∧ findK (3, Int.ofNat j + 1) (kvFrom 0 (entK ks)) 0 = some (r, .int .i64 (.ofNat r)) ∧ (entK ks).find? (fun p => p.1 = (3, Int.ofNat j + 1)) = some ((3, Int.ofNat j + 1), (3, Int.ofNat j + 50)) := by
  rcases kv_find (3, Int.ofNat j + 1) (entK ks) 0 0 with ⟨h1, h2⟩ | ⟨r, v, h1, h2, h3⟩
  · refine .inl ⟨fun hm => ?_, h1, h2⟩
    rw [List.find?_eq_none] at h2
    exact h2 _ (List.mem_map.2 ⟨j, hm, rfl⟩) (by simp)
  · rw [entK_at] at h1
    obtain ⟨k, hk, he⟩ := Option.map_eq_some_iff.1 h1
    simp only [Prod.mk.injEq, true_and] at he
    have : k = j := by have := he.1; simp only [Int.ofNat_eq_natCast] at this; omega
    subst this
    obtain ⟨_, rfl⟩ := he
    exact .inr ⟨r, hk, by simpa using h2, h3⟩
theorem setL_K {ks : List Nat} {j : Nat} (h : j ∉ ks) : setL (entK ks) (3, Int.ofNat j + 1) (3, Int.ofNat j + 50) = entK (ks ++ [j]) := by
  unfold setL posL
  rcases find_K ks j 0 with ⟨_, h1, _⟩ | ⟨r, h1, _⟩
  · rw [h1]
    simp only [Option.map_none]
    rw [if_neg (by decide), live_K]
    simp [entK]
  · exact absurd (List.mem_of_getElem? h1) h
theorem getL_K (ks : List Nat) (j : Nat) : getL (entK ks) (3, Int.ofNat j + 1) = if j ∈ ks then (3, Int.ofNat j + 50) else (0, 0) := by
  unfold getL
  rcases find_K ks j 0 with ⟨h0, _, h2⟩ | ⟨r, h0, _, h2⟩
  · rw [h2, if_neg h0]
  · rw [h2, if_pos (List.mem_of_getElem? h0)]
def nxt (ks : List Nat) (r : Nat) : VV × VV × Int := match ks[r]? with
  | some k => ((3, Int.ofNat k + 1), (3, Int.ofNat k + 50), 0)
  | none => ((0, 0), (0, 0), 0)
theorem first_K (ks : List Nat) (s : Nat) : firstIx (fun p => !isDead p) ((entK ks).drop s) = if s < ks.length then some 0 else none := by
  by_cases h : s < ks.length
  · rw [if_pos h]
    have h1 : ((entK ks).drop s)[0]? = some ((3, Int.ofNat ks[s] + 1), (3, Int.ofNat ks[s] + 50)) := by
      rw [List.getElem?_drop, Nat.add_zero, entK_at, List.getElem?_eq_getElem h]; rfl
    exact firstIx_hit h1 rfl (fun q hq => by simp at hq)
  · rw [if_neg h, List.drop_eq_nil_of_le (by rw [entK_len]; omega)]; rfl
theorem nextFrom_K (ks : List Nat) (s : Nat) : nextFrom (entK ks) s = nxt ks s := by
  unfold nextFrom nxt
  rw [first_K]
  by_cases h : s < ks.length
  · rw [if_pos h, List.getElem?_eq_getElem h]
    simp only [Nat.add_zero, entK_at, List.getElem?_eq_getElem h, Option.map_some]
  · rw [if_neg h, List.getElem?_eq_none (by omega)]
theorem next_K0 (ks : List Nat) : nextL (entK ks) (0, 0) = nxt ks 0 := by
  unfold nextL
  rw [if_pos rfl, nextFrom_K]
theorem next_K {ks : List Nat} (hn : ks.Nodup) {r k : Nat} (h : ks[r]? = some k) : nextL (entK ks) (3, Int.ofNat k + 1) = nxt ks (r + 1) := by
  unfold nextL
  rw [if_neg (show ¬ (3 : Int) = 0 by decide)]
  rcases find_K ks k 0 with ⟨h0, _, _⟩ | ⟨r', h0, h1, _⟩
  · exact absurd (List.mem_of_getElem? h) h0
  · rw [h1]
    have : r' = r := by
      obtain ⟨a, ha⟩ := List.getElem?_eq_some_iff.1 h
      obtain ⟨b, hb⟩ := List.getElem?_eq_some_iff.1 h0
      exact (List.getElem_inj hn).1 (hb.trans ha.symm)
    subst this
    exact nextFrom_K ks _
theorem used_K (ks : List Nat) : usedOf [2 + 2 * Int.ofNat ks.length] = 2 + 2 * Int.ofNat ks.length := by
  unfold usedOf usedOf
  split <;> (simp only [Int.ofNat_eq_natCast] at *; omega)
theorem pos_K (ks : List Nat) : 0 ≤ 2 + 2 * Int.ofNat ks.length := by simp only [Int.ofNat_eq_natCast]; omega
theorem has_K (ks : List Nat) : hasP (hsG ks).pool 1 = true := by
  unfold hasP
  have h := pos_K ks
  have e : (hsG ks).pool.sizes = [2 + 2 * Int.ofNat ks.length] := rfl
  rw [e]
  simp only [Bool.and_eq_true, decide_eq_true_eq]
  exact ⟨⟨Int.le_refl 1, Int.le_refl 1⟩, h⟩
theorem good_G {ks : List Nat} (h : ks.length < 10000) : HGood (hsG ks) := by
  have h1 := pos_K ks
  refine ⟨⟨show (0 : Int) ≤ 100000 by decide, show (100000 : Int) ≤ 1073741824 by decide, (used_K ks).symm, ?_, ?_, ?_, ?_, ?_, show 1 ≤ 65536 by decide⟩, rfl, show (100000 : Int) ≤ 16777216 by decide, by simp [hsG], ?_, rfl, show (0 : Int) ≤ 1 by decide⟩
  · show 2 + 2 * Int.ofNat ks.length ≤ 100000
    simp only [Int.ofNat_eq_natCast]; omega
  · show (1 : Int) = ((idsFrom [2 + 2 * Int.ofNat ks.length] 0).length : Int)
    unfold idsFrom
    rw [if_pos h1]; rfl
  · intro s hs
    simp only [hsG, List.mem_singleton] at hs
    subst hs; omega
  · show ([] : List Int).Perm (freeFrom [2 + 2 * Int.ofNat ks.length] 0)
    unfold freeFrom
    rw [if_pos h1]; exact .nil
  · intro i a b
    simp [hsG] at b
  · intro q hq
    simp only [hsG, List.mem_singleton] at hq
    subst hq
    exact has_K ks
theorem keep_K (ks : List Nat) (x : Int) : keepO (hsG ks) (3, x) = true := by
  unfold keepO
  rw [if_neg (by simp), if_neg (by simp [holdsK])]
theorem resize_K (ks : List Nat) (m : Nat) (h : ks.length < 1000) (hm : m < 1000) : resizeP (hsG ks).pool 1 (2 + 2 * Int.ofNat m) = (⟨100000, 2 + 2 * Int.ofNat m, 1, [2 + 2 * Int.ofNat m], []⟩, 0) := by
  unfold resizeP
  have e1 : (hsG ks).pool.sizes = [2 + 2 * Int.ofNat ks.length] := rfl
  have e2 : (hsG ks).pool.used = 2 + 2 * Int.ofNat ks.length := rfl
  have e3 : (hsG ks).pool.bound = 100000 := rfl
  have e4 : ([2 + 2 * Int.ofNat ks.length] : List Int).getD ((1 : Int) - 1).toNat 0 = 2 + 2 * Int.ofNat ks.length := rfl
  have hp : ¬ (hasP (hsG ks).pool 1 = false ∨ 2 + 2 * Int.ofNat m < 0) := by
    rw [has_K]
    rintro (hh | hh)
    · cases hh
    · have := pos_K ks; simp only [Int.ofNat_eq_natCast] at hh; omega
  have hq : ¬ (100000 - (2 + 2 * Int.ofNat ks.length) + (2 + 2 * Int.ofNat ks.length) < 2 + 2 * Int.ofNat m) := by simp only [Int.ofNat_eq_natCast]; omega
  rw [if_neg hp, e1, e2, e3, e4, if_neg hq]
  have e5 : 2 + 2 * Int.ofNat ks.length + (2 + 2 * Int.ofNat m - (2 + 2 * Int.ofNat ks.length)) = 2 + 2 * Int.ofNat m := by generalize 2 * Int.ofNat ks.length = a; generalize 2 * Int.ofNat m = b; omega
  rw [e5]; rfl
theorem set_G {ks : List Nat} {j : Nat} (h : j ∉ ks) (hl : ks.length < 999) : setO (hsG ks) (5, 1) (3, Int.ofNat j + 1) (3, Int.ofNat j + 50) = (hsG (ks ++ [j]), 0) := by
  unfold setO
  rw [ofO_G]
  simp only [keep_K]
  rw [if_neg (by simp), if_neg (fun hh => by
    have := hh.2.2
    have e2 : (hsG ks).pool.used = 2 + 2 * Int.ofNat ks.length := rfl
    have e3 : (hsG ks).max = 100000 := rfl
    rw [e2, e3] at this
    simp only [Int.ofNat_eq_natCast] at this; omega)]
  have ht : setL (obG ks).tab (3, Int.ofNat j + 1) (3, Int.ofNat j + 50) = entK (ks ++ [j]) := setL_K h
  unfold setH
  rw [ht, liveN_K, resize_K ks _ (by omega) (by simp; omega)]
  rfl
end Go.Proofs.YtdfadipfhcikdaaGreatDoor
