/- Heap: a good heap stays good when something is added, or a thing is turned. Plain. -/
import Derived.Test.YtckahbnkdiamjaaHmNew
namespace Go.Proofs.Ytckahbnkdiamjaa
open Go.RowKit
set_option linter.unusedSimpArgs false
set_option linter.unusedVariables false
set_option maxRecDepth 100000

theorem hasP_set {l : List Int} {j : Nat} {size : Int} (h0 : 0 ≤ size) (k : Nat) (hk : 0 ≤ l.getD k 0) : 0 ≤ (l.set j size).getD k 0 := by
  by_cases e : k = j
  · subst e
    by_cases hl : k < l.length
    · simp [List.getD, hl]; exact h0
    · have : (l.set k size)[k]? = none := List.getElem?_eq_none (by rw [List.length_set]; omega)
      simp [List.getD, this]
  · have : (l.set j size)[k]? = l[k]? := List.getElem?_set_ne (by omega)
    simp only [List.getD, this] at hk ⊢; exact hk
theorem takeP_has {hs : HS} (hG : HGood hs) {size : Int} (h0 : 0 ≤ size) (hroom : ¬ hs.max < hs.pool.used + size) (hc : hs.pool.count < 65536) : (takeP hs.pool size).1.bound = hs.pool.bound ∧ (takeP hs.pool size).1.count = hs.pool.count + 1 ∧ hasP (takeP hs.pool size).1 (takeP hs.pool size).2.1 = true ∧ ∀ q, hasP hs.pool q = true → hasP (takeP hs.pool size).1 q = true := by
  have hP := hG.pool
  have hcnt := hP.cnt
  have hb := hG.bound
  unfold takeP
  rw [if_neg (by omega), if_neg (fun h => h.elim (fun h => by omega) (fun h => by omega))]
  by_cases h4 : hs.pool.free.length = 0
  · rw [if_pos h4]
    refine ⟨rfl, rfl, ?_, fun q hq => ?_⟩
    · simp only [hasP, List.length_append, List.length_cons, List.length_nil]
      have e : ((hs.pool.sizes.length : Int) + 1 - 1).toNat = hs.pool.sizes.length := by omega
      have e2 : (hs.pool.sizes ++ [size]).getD hs.pool.sizes.length 0 = size := by simp [List.getD]
      rw [e, e2]
      simp only [Bool.and_eq_true, decide_eq_true_eq]
      refine ⟨⟨?_, ?_⟩, ?_⟩ <;> omega
    · simp only [hasP, List.length_append, List.length_cons, List.length_nil, Bool.and_eq_true, decide_eq_true_eq] at hq ⊢
      have hl : (q - 1).toNat < hs.pool.sizes.length := by omega
      have e2 : (hs.pool.sizes ++ [size]).getD (q - 1).toNat 0 = hs.pool.sizes.getD (q - 1).toNat 0 := by simp only [List.getD, List.getElem?_append_left hl]
      rw [e2]
      refine ⟨⟨?_, ?_⟩, ?_⟩ <;> omega
  · rw [if_neg h4]
    obtain ⟨k, h1, h2, h3, _⟩ := hP.top (by omega)
    refine ⟨rfl, rfl, ?_, fun q hq => ?_⟩
    · simp only [hasP, h1, List.length_set]
      have e : ((k : Int) + 1 - 1).toNat = k := by omega
      have e2 : (hs.pool.sizes.set k size).getD k 0 = size := by simp [List.getD, h2]
      rw [e, e2]
      simp only [Bool.and_eq_true, decide_eq_true_eq]
      refine ⟨⟨?_, ?_⟩, ?_⟩ <;> omega
    · simp only [hasP, List.length_set, Bool.and_eq_true, decide_eq_true_eq] at hq ⊢
      exact ⟨hq.1, hasP_set h0 _ hq.2⟩
theorem HGood.add {hs : HS} (hG : HGood hs) (ob : Ob) {size : Int} (h0 : 0 ≤ size) (hc : hs.pool.count < 65536) : HGood (addO hs ob size).1 := by
  unfold addO
  by_cases hroom : hs.max < hs.pool.used + size
  · rw [if_pos hroom]; exact hG
  rw [if_neg hroom]
  obtain ⟨t1, t2, t3⟩ := take_new hG h0 hroom hc
  obtain ⟨u1, u2, u3, u4⟩ := takeP_has hG h0 hroom hc
  refine ⟨hG.pool.take size, u1.trans hG.bound, hG.max, ?_, fun q hq => ?_, ?_, ?_⟩
  · simp only [List.map_append, List.map_cons, List.map_nil]
    refine List.nodup_append.2 ⟨hG.keys, by simp, fun a ha b hb => ?_⟩
    simp only [List.mem_singleton] at hb
    subst hb
    intro e
    subst e
    obtain ⟨q, hq, he⟩ := List.mem_map.1 ha
    have := hG.ids q hq
    rw [he, t2] at this; cases this
  · simp only [List.mem_append, List.mem_singleton] at hq
    rcases hq with hq | rfl
    · exact u4 _ (hG.ids q hq)
    · exact u3
  · simp only [u2, hG.cnt, List.length_append, List.length_cons, List.length_nil]
    omega
  · have := hG.made0
    simp only
    split <;> omega
theorem HGood.cell {hs : HS} (hG : HGood hs) (v : VV) (hc : hs.pool.count < 65536) : HGood (cellO hs v).1 := by
  unfold cellO
  split
  · exact hG.add _ (by decide) hc
  · exact hG
theorem HGood.func {hs : HS} (hG : HGood hs) (p : Int) (l : List VV) (hc : hs.pool.count < 65536) : HGood (funcO hs p l).1 := by
  unfold funcO
  split
  · exact hG
  · exact hG.add _ (by simp only [Int.ofNat_eq_natCast]; omega) hc
theorem HGood.store {hs : HS} (hG : HGood hs) (c v : VV) : HGood (storeO hs c v).1 := by
  have hk : ∀ (d : Int) (ob : Ob), (setOb hs.objs d ob).map (·.1) = hs.objs.map (·.1) := fun d ob => by
    unfold setOb
    rw [List.map_map]
    refine List.map_congr_left fun q _ => ?_
    simp only [Function.comp]
    split <;> rfl
  unfold storeO
  split
  · exact hG
  · rename_i ob _
    split
    · refine ⟨hG.pool, hG.bound, hG.max, by rw [hk]; exact hG.keys, fun q hq => ?_, ?_, hG.made0⟩
      · have : q.1 ∈ hs.objs.map (·.1) := by rw [← hk]; exact List.mem_map.2 ⟨q, hq, rfl⟩
        obtain ⟨q2, h2, e⟩ := List.mem_map.1 this
        rw [← e]; exact hG.ids q2 h2
      · simp only [setOb, List.length_map]; exact hG.cnt
    · exact hG
end Go.Proofs.Ytckahbnkdiamjaa

namespace Go.Proofs.Ytckahbnkdiamjaa
open Go.RowKit
set_option linter.unusedSimpArgs false
set_option linter.unusedVariables false

theorem look_add (l : List (Int × Ob)) (d : Int) (ob : Ob) (q : Int) : lookO (l ++ [(d, ob)]) q = match lookO l q with
    | some x => some x
    | none => if d = q then some ob else none := by
  unfold lookO
  rw [List.find?_append]
  cases h : l.find? (fun p => decide (p.1 = q)) with
  | some p => rfl
  | none =>
    simp only [Option.none_or, Option.map_none, List.find?_cons, List.find?_nil]
    by_cases e : d = q
    · simp [e]
    · simp [e]
theorem look_set (l : List (Int × Ob)) (d : Int) (ob : Ob) (q : Int) : lookO (setOb l d ob) q = if q = d then (lookO l q).map (fun _ => ob) else lookO l q := by
  induction l with
  | nil => by_cases e : q = d <;> simp [lookO, setOb, e]
  | cons p l ih =>
    unfold lookO setOb at ih ⊢
    simp only [List.map_cons, List.find?_cons]
    by_cases h1 : p.1 = d
    · by_cases h2 : p.1 = q
      · have : q = d := h2.symm.trans h1
        simp [h1, h2, this]
      · have : ¬ d = q := fun e => h2 (h1.trans e)
        simp only [h1, if_true, decide_eq_false this, this]
        exact ih
    · by_cases h2 : p.1 = q
      · have : ¬ q = d := fun e => h1 (h2.trans e)
        simp [h1, h2, this]
      · simp only [h1, if_false, decide_eq_false h2]
        exact ih
theorem find_add_old {hs : HS} (ob : Ob) (size : Int) {v : VV} {x : Ob} (h : findO hs v = some x) : findO (addO hs ob size).1 v = some x := by
  unfold addO
  split
  · exact h
  · unfold findO at h ⊢
    cases hk : holdsK v.1 with
    | false => rw [hk] at h; simp at h
    | true =>
      rw [hk] at h
      simp only [if_true] at h ⊢
      rw [look_add]
      cases e : lookO hs.objs v.2 with
      | none => rw [e] at h; cases h
      | some y => rw [e] at h; exact h
theorem find_add_new {hs : HS} (hG : HGood hs) (ob : Ob) {size : Int} (h0 : 0 ≤ size) (hroom : ¬ hs.max < hs.pool.used + size) (hc : hs.pool.count < 65536) (hk : holdsK ob.kind = true) : findO (addO hs ob size).1 (addO hs ob size).2.1 = some { ob with serial := if serialK ob.kind = true then hs.made + 1 else ob.serial } := by
  have hn := new_key hG (take_new hG h0 hroom hc).2.1
  unfold addO
  rw [if_neg hroom]
  unfold findO
  simp only [hk, if_true]
  rw [look_add, hn]
  simp only [if_true]
theorem ofO_look {hs : HS} {c : VV} {k : Int} {ob : Ob} (h : ofO hs c k = some ob) : c.1 = k ∧ lookO hs.objs c.2 = some ob ∧ ob.kind = c.1 := by
  unfold ofO at h
  split at h
  · rename_i hk
    refine ⟨hk, ?_⟩
    unfold findO at h
    split at h
    · cases e : lookO hs.objs c.2 with
      | none => rw [e] at h; cases h
      | some y =>
        rw [e] at h
        simp only at h
        split at h
        · rename_i h2; cases h; exact ⟨rfl, h2⟩
        · cases h
    · cases h
  · cases h
/-- what a store leaves: the cell holds the value, all else is as it was -/
theorem find_store {hs : HS} (c v : VV) (q : VV) : findO (storeO hs c v).1 q = if (storeO hs c v).2 = 0 ∧ q.1 = 9 ∧ q.2 = c.2 then (findO hs q).map (fun ob => { ob with has := v }) else findO hs q := by
  unfold storeO
  cases ho : ofO hs c 9 with
  | none => simp
  | some ob =>
    obtain ⟨h1, h2, h3⟩ := ofO_look ho
    cases hk : keepO hs v with
    | false => simp
    | true =>
      simp only [if_true, true_and]
      unfold findO
      simp only
      rw [look_set]
      by_cases e : q.2 = c.2
      · simp only [e, if_true, h2, Option.map_some, and_true, h3, h1]
        by_cases e9 : q.1 = 9
        · have h9 : ob.kind = 9 := h3.trans h1
          simp only [e9, if_true]
          by_cases hh : holdsK 9 = true
          · simp [hh, h9]
          · simp [hh, h9]
        · have : ¬ (9 : Int) = q.1 := fun x => e9 x.symm
          simp only [e9, if_false, this]
      · simp only [e, if_false, and_false]
end Go.Proofs.Ytckahbnkdiamjaa
