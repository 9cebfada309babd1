/- TableMap: what the law keeps beside the table, as plain data. -/
import Derived.Test.YtmflapajjghpmaaTabClears
namespace Go.Proofs.Ytmflapajjghpmaa
open Go.RowKit
set_option linter.unusedSimpArgs false
set_option linter.unusedVariables false

abbrev Want := Int → Option Int
def vOf (n : Int) : VV := if n = 0 then (0, 0) else (3, n)
def placeOf (W : Want) (k : Int) : VV × VV := ((3, k - 5), vOf ((W k).getD 0))
def tabOf (ord : List Int) (W : Want) : List (VV × VV) := ord.map (placeOf W)
def alive (W : Want) (k : Int) : Bool := !decide ((W k).getD 0 = 0)
def liveO (ord : List Int) (W : Want) : List Int := ord.filter (alive W)
def ordN (ord : List Int) (W : Want) (k n : Int) : List Int := if k ∈ ord then ord else if n = 0 then ord else liveO ord W ++ [k]
/-- what is wanted when the dead ones are struck -/
def cutW (l : List Int) (W : Want) : Want := fun x => if x ∈ l ∧ alive W x = false then none else W x
def putW (W : Want) (k n : Int) : Want := fun x => if x = k then some n else W x
def wantN (ord : List Int) (W : Want) (k n : Int) : Want := if k ∈ ord then putW W k n else if n = 0 then W else putW (cutW ord W) k n
theorem vOf_dead (n : Int) : decide ((vOf n).1 = 0) = decide (n = 0) := by
  unfold vOf
  by_cases h : n = 0
  · simp [h]
  · simp [h]
theorem keys_of (ord : List Int) (W : Want) : (tabOf ord W).map Prod.fst = ord.map fun k => ((3 : Int), k - 5) := by
  unfold tabOf; rw [List.map_map]; rfl
theorem keys_nodup {ord : List Int} (h : ord.Nodup) (W : Want) : ((tabOf ord W).map Prod.fst).Nodup := by
  rw [keys_of]
  refine List.Pairwise.map _ (fun a b hab e => hab ?_) h
  have := congrArg Prod.snd e
  simp only at this
  omega
theorem live_of (ord : List Int) (W : Want) : liveL (tabOf ord W) = tabOf (liveO ord W) W := by
  unfold liveL tabOf liveO
  rw [List.filter_map]
  congr 1
  refine List.filter_congr fun k _ => ?_
  show (!isDead (placeOf W k)) = alive W k
  unfold isDead placeOf alive
  rw [vOf_dead]
theorem tabOf_congr {ord : List Int} {W W' : Want} (h : ∀ k ∈ ord, W k = W' k) : tabOf ord W = tabOf ord W' := by
  unfold tabOf
  refine List.map_congr_left fun k hk => ?_
  unfold placeOf
  rw [h k hk]
theorem setL_of {ord : List Int} {W : Want} (hnd : ord.Nodup) (k n : Int) : setL (tabOf ord W) (3, k - 5) (vOf n) = tabOf (ordN ord W k n) (wantN ord W k n) := by
  by_cases hk : k ∈ ord
  · obtain ⟨r, hr, hrk⟩ := List.getElem_of_mem hk
    have hp : (tabOf ord W)[r]? = some (placeOf W k) := by unfold tabOf; rw [List.getElem?_map, List.getElem?_eq_getElem hr, hrk]; rfl
    have hpos := pos_at (keys_nodup hnd W) hp
    unfold setL ordN wantN
    rw [show ((3 : Int), k - 5) = (placeOf W k).1 from rfl, hpos]
    simp only [hk, if_true]
    refine List.ext_getElem? fun j => ?_
    rw [List.getElem?_set]
    unfold tabOf
    rw [List.length_map, List.getElem?_map, List.getElem?_map]
    by_cases e : r = j
    · subst e
      rw [if_pos rfl, if_pos hr, List.getElem?_eq_getElem hr, hrk]
      simp only [Option.map_some, placeOf, putW, if_true, Option.getD_some]
    · rw [if_neg e]
      cases hj : ord[j]? with
      | none => rfl
      | some x =>
        have hx : x ≠ k := fun e2 => e ((List.getElem?_inj hr hnd).1 (by rw [List.getElem?_eq_getElem hr, hrk, hj, e2]))
        simp only [Option.map_some, placeOf, putW, if_neg hx]
  · have hno : posL (tabOf ord W) (3, k - 5) = none := by
      unfold posL
      rw [findK_new _ 0 0 (fun hm => ?_)]; rfl
      rw [keys_of] at hm
      obtain ⟨x, hx, he⟩ := List.mem_map.1 hm
      have := congrArg Prod.snd he
      simp only at this
      exact hk (by rwa [show k = x from by omega])
    unfold setL ordN wantN
    rw [hno]
    simp only [hk, if_false]
    by_cases h0 : n = 0
    · simp [h0, vOf]
    · have hv : vOf n = (3, n) := by unfold vOf; rw [if_neg h0]
      simp only [h0, if_false, hv, show ¬ ((3 : Int) = 0) from by decide]
      rw [live_of]
      unfold tabOf
      rw [List.map_append]
      congr 1
      · refine List.map_congr_left fun x hx => ?_
        have hxo : x ∈ ord := (List.filter_sublist).subset hx
        have hxk : x ≠ k := fun e => hk (e ▸ hxo)
        have hal : alive W x = true := (List.mem_filter.1 hx).2
        unfold placeOf putW cutW
        rw [if_neg hxk, if_neg (fun h => by rw [hal] at h; exact absurd h.2 (by decide))]
      · simp only [List.map_cons, List.map_nil, placeOf, putW, if_true, Option.getD_some, hv]
theorem ordN_nodup {ord : List Int} {W : Want} (hnd : ord.Nodup) (k n : Int) : (ordN ord W k n).Nodup := by
  unfold ordN
  split
  · exact hnd
  · rename_i hk
    split
    · exact hnd
    · rw [List.nodup_append]
      refine ⟨hnd.filter _, by simp, fun x hx y hy e => ?_⟩
      simp at hy; subst hy; subst e
      exact hk ((List.filter_sublist).subset hx)
theorem wantN_dom {ord : List Int} {W : Want} (hd : ∀ x, (W x).isSome = decide (x ∈ ord)) (k n : Int) : ∀ x, (wantN ord W k n x).isSome = decide (x ∈ ordN ord W k n) := by
  intro x
  unfold wantN ordN
  by_cases hk : k ∈ ord
  · simp only [hk, if_true]
    unfold putW
    by_cases e : x = k
    · rw [if_pos e, e]; simp [hk]
    · rw [if_neg e]; exact hd x
  · simp only [hk, if_false]
    by_cases h0 : n = 0
    · simp only [h0, if_true]; exact hd x
    · simp only [h0, if_false]
      unfold putW cutW
      by_cases e : x = k
      · rw [if_pos e, e]; simp
      · rw [if_neg e]
        by_cases hx : x ∈ ord
        · cases ha : alive W x with
          | true =>
            rw [if_neg (fun h => by cases h.2), hd x]
            simp [liveO, hx, ha, e]
          | false => simp [liveO, hx, ha, e]
        · rw [if_neg (fun h => hx h.1), hd x]
          simp [liveO, hx, e]
theorem ordN_len (ord : List Int) (W : Want) (k n : Int) : (ordN ord W k n).length ≤ ord.length + 1 := by
  unfold ordN
  split
  · omega
  · split
    · omega
    · rw [List.length_append]
      have : (liveO ord W).length ≤ ord.length := List.length_filter_le _ _
      simp; omega
end Go.Proofs.Ytmflapajjghpmaa
