/- TableMap: how the law's own map and list lie. -/
import Derived.Test.YtmflapajjghpmaaTabMap0
import Derived.Test.YtmflapajjghpmaaTabLaw0
namespace Go.Proofs.Ytmflapajjghpmaa
open Go.RowKit
set_option linter.unusedSimpArgs false
set_option linter.unusedVariables false

theorem key_int : KeyBy Try.prog 3 (Value.int .i64) where
  chk b x := by kernel_rfl
  flat x := rfl
  bits x := by simp [Instr.sameBits]
  desc := ⟨_, Try.underlying3, .inl fun x y => by
    simp only [Instr.sameNow]
    by_cases h : x = y <;> simp [h]⟩
/-- a map of numbers tells this -/
def WantIs (es : List MapEntry) (W : Want) : Prop := ∃ kv, MapIs (Value.int .i64) es kv ∧ (kv.map Prod.fst).Nodup ∧ ∀ x, (findK x kv 0).map (·.2) = (W x).map (Value.int .i64)
theorem WantIs.nil : WantIs [] fun _ => none := ⟨[], rfl, List.nodup_nil, fun x => rfl⟩
theorem findK_shift {K : Type} [DecidableEq K] (x : K) : ∀ (kv : List (K × Value)) (i j : Nat), (findK x kv i).map (·.2) = (findK x kv j).map (·.2)
  | [], i, j => rfl
  | p :: l, i, j => by
    simp only [findK]
    by_cases h : x = p.1
    · rw [if_pos h, if_pos h]; rfl
    · rw [if_neg h, if_neg h]; exact findK_shift x l (i + 1) (j + 1)
theorem findK_put {K : Type} [DecidableEq K] (x y : K) (v : Value) : ∀ (kv : List (K × Value)) (i j : Nat) (u : Value), findK x kv i = some (i + j, u) → (findK y (kv.set j (x, v)) 0).map (·.2) = if y = x then some v else (findK y kv 0).map (·.2)
  | [], i, j, u, h => by cases h
  | p :: l, i, 0, u, h => by
    have hx : x = p.1 := by
      simp only [findK] at h
      by_cases e : x = p.1
      · exact e
      · rw [if_neg e] at h
        obtain ⟨k, hk, _⟩ := findK_get x l (i + 1) _ _ h
        omega
    simp only [List.set_cons_zero, findK]
    by_cases e : y = x
    · rw [if_pos e, if_pos e]; rfl
    · rw [if_neg e, if_neg e, if_neg (fun h2 => e (h2.trans hx.symm))]
  | p :: l, i, j + 1, u, h => by
    have hx : ¬ x = p.1 := fun e => by
      simp only [findK] at h
      rw [if_pos e] at h
      simp at h
    simp only [findK] at h
    rw [if_neg hx] at h
    have ih := findK_put x y v l (i + 1) j u (by rw [h]; congr 2; omega)
    simp only [List.set_cons_succ, findK]
    by_cases e : y = p.1
    · rw [if_pos e, if_pos e, if_neg (fun h2 : y = x => hx (h2 ▸ e))]
    · rw [if_neg e, if_neg e, findK_shift y _ (0 + 1) 0, ih, findK_shift y l (0 + 1) 0]
theorem findK_snoc {K : Type} [DecidableEq K] (x y : K) (v : Value) : ∀ (kv : List (K × Value)), findK x kv 0 = none → (findK y (kv ++ [(x, v)]) 0).map (·.2) = if y = x then some v else (findK y kv 0).map (·.2)
  | [], h => by
    simp only [List.nil_append, findK]
    by_cases e : y = x
    · rw [if_pos e, if_pos e]; rfl
    · rw [if_neg e, if_neg e]
  | p :: l, h => by
    have hx : ¬ x = p.1 := fun e => by
      simp only [findK] at h
      rw [if_pos e] at h; cases h
    have hn : findK x l 0 = none := by
      simp only [findK] at h
      rw [if_neg hx] at h
      have := findK_shift x l (0 + 1) 0
      rw [h] at this
      cases h2 : findK x l 0 with
      | none => rfl
      | some r => rw [h2] at this; cases this
    have ih := findK_snoc x y v l hn
    simp only [List.cons_append, findK]
    by_cases e : y = p.1
    · rw [if_pos e, if_pos e, if_neg (fun h2 : y = x => hx (h2 ▸ e))]
    · rw [if_neg e, if_neg e, findK_shift y _ (0 + 1) 0, ih, findK_shift y l (0 + 1) 0]
theorem findK_erase {K : Type} [DecidableEq K] (x y : K) : ∀ (kv : List (K × Value)) (i j : Nat) (u : Value), (kv.map Prod.fst).Nodup → findK x kv i = some (i + j, u) → (findK y (kv.eraseIdx j) 0).map (·.2) = if y = x then none else (findK y kv 0).map (·.2)
  | [], i, j, u, _, h => by cases h
  | p :: l, i, 0, u, hnd, h => by
    have hx : x = p.1 := by
      simp only [findK] at h
      by_cases e : x = p.1
      · exact e
      · rw [if_neg e] at h
        obtain ⟨k, hk, _⟩ := findK_get x l (i + 1) _ _ h
        omega
    rw [List.map_cons, List.nodup_cons] at hnd
    simp only [List.eraseIdx_cons_zero, findK]
    by_cases e : y = x
    · rw [if_pos e]
      have : findK y l 0 = none := by
        cases h2 : findK y l 0 with
        | none => rfl
        | some r =>
          obtain ⟨k, v⟩ := r
          obtain ⟨k', _, hk'⟩ := findK_get y l 0 k v h2
          exact absurd (List.mem_map.2 ⟨_, List.mem_of_getElem? hk', e.trans hx⟩) hnd.1
      rw [this]; rfl
    · rw [if_neg e, if_neg (fun h2 => e (h2.trans hx.symm)), findK_shift y l (0 + 1) 0]
  | p :: l, i, j + 1, u, hnd, h => by
    have hx : ¬ x = p.1 := fun e => by
      simp only [findK] at h
      rw [if_pos e] at h
      simp at h
    simp only [findK] at h
    rw [if_neg hx] at h
    rw [List.map_cons, List.nodup_cons] at hnd
    have ih := findK_erase x y l (i + 1) j u hnd.2 (by rw [h]; congr 2; omega)
    simp only [List.eraseIdx_cons_succ, findK]
    by_cases e : y = p.1
    · rw [if_pos e, if_pos e, if_neg (fun h2 : y = x => hx (h2 ▸ e))]
    · rw [if_neg e, if_neg e, findK_shift y _ (0 + 1) 0, ih, findK_shift y l (0 + 1) 0]
def delW (W : Want) (k : Int) : Want := fun x => if x = k then none else W x
section
variable {W : Want} {es : List MapEntry} {c qw : Nat} {H : AHeap}
theorem want_look (hw : WantIs es W) (hg : H.get qw = some (.map es c)) (x : Int) : aLookup Try.prog 37 (.map (some qw)) (.int .i64 x) true H = some (.tuple #[.int .i64 ((W x).getD 0), .bool (W x).isSome]) := by
  obtain ⟨kv, hm, hn, hf⟩ := hw
  rw [aLookup_by key_int Try.underlying37 (show zeroOf Try.prog 2 = some (.int .i64 0) by kernel_rfl) hg hm x true]
  have := hf x
  cases h1 : findK x kv 0 with
  | none => rw [h1] at this; cases h2 : W x with
    | none => rfl
    | some n => rw [h2] at this; cases this
  | some r => rw [h1] at this; cases h2 : W x with
    | none => rw [h2] at this; cases this
    | some n => rw [h2] at this; simp at this; obtain ⟨j, v⟩ := r; simp at this; subst this; rfl
theorem want_look1 (hw : WantIs es W) (hg : H.get qw = some (.map es c)) (x : Int) : aLookup Try.prog 37 (.map (some qw)) (.int .i64 x) false H = some (.int .i64 ((W x).getD 0)) := by
  obtain ⟨kv, hm, hn, hf⟩ := hw
  rw [aLookup_by key_int Try.underlying37 (show zeroOf Try.prog 2 = some (.int .i64 0) by kernel_rfl) hg hm x false]
  have := hf x
  cases h1 : findK x kv 0 with
  | none => rw [h1] at this; cases h2 : W x with
    | none => rfl
    | some n => rw [h2] at this; cases this
  | some r => rw [h1] at this; cases h2 : W x with
    | none => rw [h2] at this; cases this
    | some n => rw [h2] at this; simp at this; obtain ⟨j, v⟩ := r; simp at this; subst this; rfl
theorem map_keys_set {K : Type} [DecidableEq K] (x : K) (v u : Value) : ∀ (kv : List (K × Value)) (i j : Nat), findK x kv i = some (i + j, u) → (kv.set j (x, v)).map Prod.fst = kv.map Prod.fst := by
  intro kv i j h
  obtain ⟨k, hk, hx⟩ := findK_get x kv i _ _ h
  have hk : k = j := by omega
  subst hk
  refine List.ext_getElem? fun q => ?_
  rw [List.getElem?_map, List.getElem?_map, List.getElem?_set]
  by_cases e : k = q
  · subst e
    rw [if_pos rfl, if_pos (List.getElem?_eq_some_iff.1 hx).1, hx]; rfl
  · rw [if_neg e]
theorem want_put (hw : WantIs es W) (hg : H.get qw = some (.map es c)) (x n : Int) : Got (aMapUpdate Try.prog 37 (.map (some qw)) (.int .i64 x) (.int .i64 n) H) fun H' =>
    H'.next = H.next ∧ (∃ es' c', H'.get qw = some (.map es' c') ∧ WantIs es' (putW W x n)) ∧ ∀ b, b ≠ qw → H'.get b = H.get b := by
  obtain ⟨kv, hm, hn, hf⟩ := hw
  have htell : ∀ es', MapIs (Value.int .i64) es' kv → True := fun _ _ => trivial
  cases h1 : findK x kv 0 with
  | none =>
    obtain ⟨es', he, hm'⟩ := aMapUpdate_new key_int Try.underlying37 hg hm x (.int .i64 n) h1
    rw [he, got_some]
    refine ⟨rfl, ⟨es', c + 1, by rw [AHeap.get_upd, if_pos rfl], _, hm', ?_, fun y => ?_⟩, fun b hb => by rw [AHeap.get_upd, if_neg hb]⟩
    · rw [List.map_append, List.nodup_append]
      refine ⟨hn, by simp, fun y hy z hz e => ?_⟩
      simp at hz; subst hz; subst e
      obtain ⟨p, hp, rfl⟩ := List.mem_map.1 hy
      have h2 := hf p.1
      obtain ⟨r, hr, hre⟩ := List.getElem_of_mem hp
      have : ∀ (l : List (Int × Value)) (i : Nat), p ∈ l → findK p.1 l i ≠ none := by
        intro l
        induction l with
        | nil => intro i h; cases h
        | cons a l ih =>
          intro i h
          simp only [findK]
          by_cases e : p.1 = a.1
          · rw [if_pos e]; simp
          · rw [if_neg e]
            rcases List.mem_cons.1 h with h | h
            · exact absurd (by rw [h]) e
            · exact ih (i + 1) h
      exact this kv 0 hp h1
    · rw [findK_snoc x y _ kv h1, hf y]
      unfold putW
      by_cases e : y = x
      · rw [if_pos e, if_pos e]; rfl
      · rw [if_neg e, if_neg e]
  | some r =>
    obtain ⟨j, u⟩ := r
    obtain ⟨es', he, hm'⟩ := aMapUpdate_old key_int Try.underlying37 hg hm x (.int .i64 n) h1
    rw [he, got_some]
    refine ⟨rfl, ⟨es', c, by rw [AHeap.get_upd, if_pos rfl], _, hm', ?_, fun y => ?_⟩, fun b hb => by rw [AHeap.get_upd, if_neg hb]⟩
    · rw [map_keys_set x _ u kv 0 j (by rw [h1, Nat.zero_add])]; exact hn
    · rw [findK_put x y _ kv 0 j u (by rw [h1, Nat.zero_add]), hf y]
      unfold putW
      by_cases e : y = x
      · rw [if_pos e, if_pos e]; rfl
      · rw [if_neg e, if_neg e]
theorem want_del (hw : WantIs es W) (hg : H.get qw = some (.map es c)) (x : Int) : Got (aDelete Try.prog 37 (.map (some qw)) (.int .i64 x) H) fun H' =>
    H'.next = H.next ∧ (∃ es' c', H'.get qw = some (.map es' c') ∧ WantIs es' (delW W x)) ∧ ∀ b, b ≠ qw → H'.get b = H.get b := by
  obtain ⟨kv, hm, hn, hf⟩ := hw
  obtain ⟨es', he, hm'⟩ := aDelete_by key_int Try.underlying37 hg hm x
  rw [he, got_some]
  refine ⟨rfl, ⟨es', c, by rw [AHeap.get_upd, if_pos rfl], _, hm', ?_, fun y => ?_⟩, fun b hb => by rw [AHeap.get_upd, if_neg hb]⟩
  · cases h1 : findK x kv 0 with
    | none => exact hn
    | some r => exact hn.sublist ((List.eraseIdx_sublist _ _).map _)
  · cases h1 : findK x kv 0 with
    | none =>
      simp only
      rw [hf y]
      unfold delW
      by_cases e : y = x
      · rw [if_pos e, ← hf y, e, h1]; rfl
      · rw [if_neg e]
    | some r =>
      obtain ⟨j, u⟩ := r
      simp only
      rw [findK_erase x y kv 0 j u hn (by rw [h1, Nat.zero_add]), hf y]
      unfold delW
      by_cases e : y = x
      · rw [if_pos e, if_pos e]; rfl
      · rw [if_neg e, if_neg e]
end
/-- how a list of numbers lies that grows: nil, cut down to nothing, or in a row of its own -/
def LeftAt (o : Tr AObj) (nx : Nat) (v : Value) (l : List Int) : Prop :=
  (l = [] ∧ v = .slice none 0 0) ∨ (l = [] ∧ ∃ b cells, v = .slice (some ⟨b, 0, none⟩) 0 1 ∧ b < nx ∧ o.get b = some (.row cells 3 1 true)) ∨ l ≠ [] ∧ ∃ f, v = .slice (some ⟨f, 0, none⟩) l.length 0 ∧ f < nx ∧ o.get f = some (.row (l.map (Value.int .i64)) 3 1 true)
theorem LeftAt.keep {o o' : Tr AObj} {nx nx' : Nat} {v : Value} {l : List Int} (h : LeftAt o nx v l) (hn : nx ≤ nx') (hk : ∀ b, b < nx → o'.get b = o.get b) : LeftAt o' nx' v l := by
  rcases h with h | ⟨rfl, b, cells, rfl, h1, h2⟩ | ⟨h0, f, rfl, h1, h2⟩
  · exact .inl h
  · exact .inr (.inl ⟨rfl, b, cells, rfl, by omega, (hk b h1).trans h2⟩)
  · exact .inr (.inr ⟨h0, f, rfl, by omega, (hk f h1).trans h2⟩)
theorem app_int {o : Tr AObj} {nx nx' : Nat} {lg : List Nat} {v : Value} {l : List Int} (h : LeftAt o nx v l) (hl : l.length < 1000000) {q fid : Nat} {x : Int} (hq : o.get q = some (.row [.int .i64 x] 3 1 true)) (hf : nx ≤ fid) :
    Got (aAppend Try.prog 22 22 v (.slice (some ⟨q, 0, none⟩) 1 2) fid ⟨o, nx', lg⟩) fun r =>
      r.1 = .slice (some ⟨fid, 0, none⟩) (l ++ [x]).length 0 ∧ r.2.next = nx' ∧ r.2.get fid = some (.row ((l ++ [x]).map (Value.int .i64)) 3 1 true) ∧ ∀ b, b ≠ fid → (∀ f, l ≠ [] → v = .slice (some ⟨f, 0, none⟩) l.length 0 → b ≠ f) → r.2.get b = o.get b := by
  have hap : appOf Try.prog 22 22 = some (3, 1, 8) := by kernel_rfl
  have hadd : addCells 1 (.slice (some ⟨q, 0, none⟩) 1 2) (⟨o, nx', lg⟩ : AHeap) = some (0 + 1, [.int .i64 x]) := by
    simp only [addCells, heap_get, hq]; rfl
  rcases h with ⟨rfl, rfl⟩ | ⟨rfl, b, cells, rfl, hbn, hb⟩ | ⟨hne, f, rfl, hfn, hg⟩
  · rw [app_none hap hadd (by decide), got_some]
    refine ⟨rfl, rfl, ?_, fun b hb _ => ?_⟩
    · show (o.put fid _).get fid = _
      rw [get_put_same]; rfl
    · show (o.put fid _).get b = _
      rw [get_put_ne _ _ _ _ hb]
  · rw [appOf_at hap, hadd]
    have hc : cut cells 0 (0 * 1) = some [] := by unfold cut; simp
    refine ⟨(.slice (some ⟨fid, 0, none⟩) 1 0, newRowA fid [.int .i64 x] 3 1 ⟨o, nx', lg⟩), ?_, rfl, rfl, ?_, fun b2 hb2 _ => ?_⟩
    · simp only [heap_get, hb, hc]; rfl
    · show (o.put fid _).get fid = _
      rw [get_put_same]; rfl
    · show (o.put fid _).get b2 = _
      rw [get_put_ne _ _ _ _ hb2]
  · have hc : cut (l.map (Value.int .i64)) 0 (l.length * 1) = some (l.map (Value.int .i64)) := cut_in (by simp) [] [] rfl (by simp)
    rw [app_row hap hadd (by exact hg) hc (by unfold roomOk; rw [Bool.and_eq_true, Nat.ble_eq, Nat.ble_eq]; omega) (by rfl), got_some]
    refine ⟨by simp, rfl, ?_, fun b hb hb2 => ?_⟩
    · show ((o.put f none).put fid _).get fid = _
      rw [get_put_same, List.map_append]; rfl
    · show ((o.put f none).put fid _).get b = _
      rw [get_put_ne _ _ _ _ hb]
      rw [get_put_ne _ _ _ _ (hb2 f hne rfl)]
end Go.Proofs.Ytmflapajjghpmaa
