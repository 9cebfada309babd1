/- HeapKeeps: what the law knows of its heap. Plain. -/
import Derived.Test.YthnlkahgmbadoaaHmAcc
import Derived.Test.YthnlkahgmbadoaaHtLaw0
namespace Go.Proofs.Ythnlkahgmbadoaa
open Go.RowKit
set_option linter.unusedSimpArgs false
set_option linter.unusedVariables false
set_option maxRecDepth 100000

/-! ### lists by keys -/
theorem findK_map {α K : Type} [DecidableEq K] (k : α → K) (w : α → Value) (x : K) : ∀ (l : List α) (i : Nat), (x ∉ l.map k ∧ findK x (l.map fun q => (k q, w q)) i = none) ∨ ∃ r q, l[r]? = some q ∧ k q = x ∧ (∀ p ∈ l.take r, k p ≠ x) ∧ findK x (l.map fun q => (k q, w q)) i = some (i + r, w q)
  | [], i => .inl ⟨by simp, rfl⟩
  | q :: l, i => by
    by_cases e : k q = x
    · refine .inr ⟨0, q, rfl, e, fun p hp => (by cases hp), ?_⟩
      simp only [List.map_cons, findK, e, if_true, Nat.add_zero]
    · rcases findK_map k w x l (i + 1) with ⟨h1, h2⟩ | ⟨r, p, h1, h2, h3, h4⟩
      · refine .inl ⟨by simp only [List.map_cons, List.mem_cons, not_or]; exact ⟨fun h => e h.symm, h1⟩, ?_⟩
        simp only [List.map_cons, findK]; rw [if_neg (fun h => e h.symm)]; exact h2
      · refine .inr ⟨r + 1, p, by simpa using h1, h2, fun p' hp => ?_, ?_⟩
        · rw [List.take_succ_cons] at hp
          rcases List.mem_cons.1 hp with rfl | hp
          · exact e
          · exact h3 p' hp
        · simp only [List.map_cons, findK]; rw [if_neg (fun h => e h.symm), h4, show i + 1 + r = i + (r + 1) from by omega]
theorem putK_none {α K : Type} [DecidableEq K] (k : α → K) (w : α → Value) (x : K) (v : Value) (l : List α) (h : x ∉ l.map k) : putK x v (l.map fun q => (k q, w q)) = (l.map fun q => (k q, w q)) ++ [(x, v)] := by
  unfold putK
  rcases findK_map k w x l 0 with ⟨_, h2⟩ | ⟨r, q, h1, h2, _, _⟩
  · rw [h2]
  · exact absurd (List.mem_map.2 ⟨q, List.mem_of_getElem? h1, h2⟩) h
theorem putK_old {α K : Type} [DecidableEq K] (k : α → K) (w : α → Value) (x : K) (v : Value) (l : List α) (hn : (l.map k).Nodup) (h : x ∈ l.map k) : putK x v (l.map fun q => (k q, w q)) = l.map fun q => (k q, if k q = x then v else w q) := by
  unfold putK
  rcases findK_map k w x l 0 with ⟨h1, _⟩ | ⟨r, q, h1, h2, h3, h4⟩
  · exact absurd h h1
  · rw [h4]
    simp only [Nat.zero_add]
    refine List.ext_getElem? fun j => ?_
    rw [List.getElem?_set, List.getElem?_map, List.getElem?_map]
    have hr := (List.getElem?_eq_some_iff.1 h1).1
    by_cases e : r = j
    · subst e
      rw [if_pos rfl, if_pos (by simpa using hr), h1]
      simp only [Option.map_some, h2, if_true]
    · rw [if_neg e]
      cases hj : l[j]? with
      | none => rfl
      | some p =>
        simp only [Option.map_some]
        have : k p ≠ x := by
          intro e2
          have a1 : (l.map k)[j]? = some x := by rw [List.getElem?_map, hj, Option.map_some, e2]
          have a2 : (l.map k)[r]? = some x := by rw [List.getElem?_map, h1, Option.map_some, h2]
          obtain ⟨hj2, ej⟩ := List.getElem?_eq_some_iff.1 a1
          obtain ⟨hr2, er⟩ := List.getElem?_eq_some_iff.1 a2
          have hp := List.pairwise_iff_getElem.1 hn
          rcases Nat.lt_or_gt_of_ne e with hlt | hlt
          · exact hp r j hr2 hj2 hlt (er.trans ej.symm)
          · exact hp j r hj2 hr2 hlt (ej.trans er.symm)
        rw [if_neg this]
/-! ### what is found -/
theorem find_iff {hs : HS} (hG : HGood hs) {v : VV} {ob : Ob} : findO hs v = some ob ↔ holdsK v.1 = true ∧ (v.2, ob) ∈ hs.objs ∧ ob.kind = v.1 := by
  constructor
  · intro h
    unfold findO at h
    split at h
    · rename_i hh
      split at h
      · rename_i o2 h1
        split at h
        · cases h; exact ⟨hh, look_mem h1, by assumption⟩
        · cases h
      · cases h
    · cases h
  · rintro ⟨h1, h2, h3⟩
    unfold findO
    rw [if_pos h1, look_nodup hG.keys h2]
    simp only [h3, if_true]
/-! ### the law's heap -/
def KShape (ob : Ob) : Prop := (ob.kind = 9 ∧ ob.has.1 = 3) ∨ (ob.kind = 5 ∧ ∃ n, ob.tab = [((3, 1), (3, n))])
def numOf (ob : Ob) : Int := if ob.kind = 9 then ob.has.2 else (getL ob.tab (3, 1)).2
def keyOf (q : Int × Ob) : VV := (q.2.kind, q.1)
/-- the map of what is there -/
abbrev wantKV (l : List (Int × Ob)) : List (VV × Value) := l.map fun q => (keyOf q, .int .i64 (numOf q.2))
structure KP (hs : HS) (cnt : Nat) : Prop where
  good : HGood hs
  acc : Acc hs
  watch : hs.watch = false
  max : hs.max = 400
  shape : ∀ q ∈ hs.objs, KShape q.2
  sizes : hs.pool.sizes.length ≤ cnt
  made : hs.made ≤ cnt
theorem KP.wider {hs : HS} {c c' : Nat} (h : KP hs c) (hc : c ≤ c') : KP hs c' := ⟨h.good, h.acc, h.watch, h.max, h.shape, Nat.le_trans h.sizes hc, by have := h.made; omega⟩
theorem KP.count {hs : HS} {c : Nat} (h : KP hs c) : hs.pool.count ≤ c := by
  have := h.good.pool.cnt
  have := h.sizes
  omega
theorem KShape.holds {ob : Ob} (h : KShape ob) : holdsK ob.kind = true ∧ (ob.kind = 5 ∨ ob.kind = 9) := by
  rcases h with ⟨h, _⟩ | ⟨h, _⟩ <;> rw [h] <;> exact ⟨by decide, by decide⟩
theorem keys_nodup {hs : HS} (hG : HGood hs) : (hs.objs.map keyOf).Nodup := by
  have h := hG.keys
  have : (hs.objs.map (·.1)) = (hs.objs.map keyOf).map (·.2) := by rw [List.map_map]; rfl
  rw [this] at h
  exact List.Pairwise.of_map (fun x : VV => x.2) (fun a b hab e => hab (by rw [e])) h
theorem KP.find {hs : HS} {c : Nat} (h : KP hs c) (v : VV) : (v ∉ hs.objs.map keyOf ∧ findO hs v = none) ∨ ∃ ob, findO hs v = some ob ∧ (v.2, ob) ∈ hs.objs ∧ ob.kind = v.1 ∧ KShape ob ∧ v ∈ hs.objs.map keyOf := by
  by_cases hv : v ∈ hs.objs.map keyOf
  · obtain ⟨q, hq, e⟩ := List.mem_map.1 hv
    subst e
    exact .inr ⟨q.2, (find_iff h.good).2 ⟨(h.shape q hq).holds.1, hq, rfl⟩, hq, rfl, h.shape q hq, hv⟩
  · refine .inl ⟨hv, ?_⟩
    cases hf : findO hs v with
    | none => rfl
    | some ob =>
      obtain ⟨_, h2, h3⟩ := (find_iff h.good).1 hf
      exact absurd (List.mem_map.2 ⟨_, h2, by unfold keyOf; rw [h3]⟩) hv
theorem keep3 (hs : HS) (n : Int) : keepO hs (3, n) = true := by
  unfold keepO
  rw [if_neg (by simp)]
  rfl
/-! ### adding -/
theorem KP.add {hs : HS} {c : Nat} (h : KP hs c) (hc : c ≤ 1000) (ob : Ob) {size : Int} (h0 : 0 ≤ size) (hsz : size = szO ob) (hroom : ¬ hs.max < hs.pool.used + size) :
    (addO hs ob size).2.2 = 0 ∧ (addO hs ob size).2.1.1 = ob.kind ∧ HGood (addO hs ob size).1 ∧ Acc (addO hs ob size).1 ∧ (addO hs ob size).1.watch = false ∧ (addO hs ob size).1.max = 400 ∧ (addO hs ob size).1.pool.sizes.length ≤ c + 1 ∧ (addO hs ob size).1.made ≤ (c + 1 : Nat) ∧
      (addO hs ob size).1.pool.used = hs.pool.used + size ∧ 1 ≤ (addO hs ob size).2.1.2 ∧
      ∃ ob', (addO hs ob size).1.objs = hs.objs ++ [((addO hs ob size).2.1.2, ob')] ∧ ob'.kind = ob.kind ∧ ob'.has = ob.has ∧ ob'.tab = ob.tab ∧ ((addO hs ob size).2.1.2 ∉ hs.objs.map (·.1)) := by
  have hcn := h.count
  have hg := h.good.add ob h0 (by omega)
  have ha := h.acc.add h.good ob h0 hsz (by omega)
  obtain ⟨t1, t2, t3⟩ := take_new h.good h0 hroom (by omega)
  obtain ⟨u1, u2⟩ := takeP_le h.good h0 hroom (by omega)
  have hz := h.sizes; have hm := h.made
  have hk := hg.keys
  refine ⟨?_, ?_, hg, ha, ?_, ?_, ?_, ?_, ?_, ?_, ?_⟩
  all_goals unfold addO at hk ⊢
  all_goals rw [if_neg hroom] at hk ⊢
  · exact h.watch
  · exact h.max
  · simp only; omega
  · simp only; split <;> omega
  · exact u1
  · exact t3
  · refine ⟨_, rfl, rfl, rfl, rfl, ?_⟩
    simp only [List.map_append, List.map_cons, List.map_nil] at hk
    have := (List.nodup_append.1 hk).2.2
    intro hx
    exact this _ hx _ (by simp) rfl
theorem erase_last {l : List (Int × Ob)} {d : Int} {ob : Ob} (h : d ∉ l.map (·.1)) : (l ++ [(d, ob)]).eraseP (fun q => decide (q.1 = d)) = l := by
  rw [List.eraseP_append_right]
  · simp
  · intro q hq
    have : q.1 ≠ d := fun e => h (by rw [← e]; exact List.mem_map.2 ⟨q, hq, rfl⟩)
    simp [this]
end Go.Proofs.Ythnlkahgmbadoaa
