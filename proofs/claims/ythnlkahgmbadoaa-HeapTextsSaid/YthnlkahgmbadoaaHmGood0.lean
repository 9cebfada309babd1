/- Heap: a good heap stays good when something is added, or a thing is turned. Plain. -/
import Derived.Test.YthnlkahgmbadoaaHmNew0
namespace Go.Proofs.Ythnlkahgmbadoaa
open Go.RowKit
set_option linter.unusedSimpArgs false
set_option linter.unusedVariables false
set_option maxRecDepth 100000

theorem hasP_set {l : List Int} {j : Nat} {size : Int} (h0 : 0 ≤ size) (k : Nat) (hk : 0 ≤ l.getD k 0) : 0 ≤ (l.set j size).getD k 0 := by
  by_cases e : k = j
  · subst e
    by_cases hl : k < l.length
    · simp [List.getD, hl]; exact h0
    · have : (l.set k size)[k]? = none := List.getElem?_eq_none (by rw [List.length_set]; omega)
      simp [List.getD, this]
  · have : (l.set j size)[k]? = l[k]? := List.getElem?_set_ne (by omega)
    simp only [List.getD, this] at hk ⊢; exact hk
theorem takeP_has {hs : HS} (hG : HGood hs) {size : Int} (h0 : 0 ≤ size) (hroom : ¬ hs.max < hs.pool.used + size) (hc : hs.pool.count < 65536) : (takeP hs.pool size).1.bound = hs.pool.bound ∧ (takeP hs.pool size).1.count = hs.pool.count + 1 ∧ hasP (takeP hs.pool size).1 (takeP hs.pool size).2.1 = true ∧ ∀ q, hasP hs.pool q = true → hasP (takeP hs.pool size).1 q = true := by
  have hP := hG.pool
  have hcnt := hP.cnt
  have hb := hG.bound
  unfold takeP
  rw [if_neg (by omega), if_neg (fun h => h.elim (fun h => by omega) (fun h => by omega))]
  by_cases h4 : hs.pool.free.length = 0
  · rw [if_pos h4]
    refine ⟨rfl, rfl, ?_, fun q hq => ?_⟩
    · simp only [hasP, List.length_append, List.length_cons, List.length_nil]
      have e : ((hs.pool.sizes.length : Int) + 1 - 1).toNat = hs.pool.sizes.length := by omega
      have e2 : (hs.pool.sizes ++ [size]).getD hs.pool.sizes.length 0 = size := by simp [List.getD]
      rw [e, e2]
      simp only [Bool.and_eq_true, decide_eq_true_eq]
      refine ⟨⟨?_, ?_⟩, ?_⟩ <;> omega
    · simp only [hasP, List.length_append, List.length_cons, List.length_nil, Bool.and_eq_true, decide_eq_true_eq] at hq ⊢
      have hl : (q - 1).toNat < hs.pool.sizes.length := by omega
      have e2 : (hs.pool.sizes ++ [size]).getD (q - 1).toNat 0 = hs.pool.sizes.getD (q - 1).toNat 0 := by simp only [List.getD, List.getElem?_append_left hl]
      rw [e2]
      refine ⟨⟨?_, ?_⟩, ?_⟩ <;> omega
  · rw [if_neg h4]
    obtain ⟨k, h1, h2, h3, _⟩ := hP.top (by omega)
    refine ⟨rfl, rfl, ?_, fun q hq => ?_⟩
    · simp only [hasP, h1, List.length_set]
      have e : ((k : Int) + 1 - 1).toNat = k := by omega
      have e2 : (hs.pool.sizes.set k size).getD k 0 = size := by simp [List.getD, h2]
      rw [e, e2]
      simp only [Bool.and_eq_true, decide_eq_true_eq]
      refine ⟨⟨?_, ?_⟩, ?_⟩ <;> omega
    · simp only [hasP, List.length_set, Bool.and_eq_true, decide_eq_true_eq] at hq ⊢
      exact ⟨hq.1, hasP_set h0 _ hq.2⟩
theorem HGood.add {hs : HS} (hG : HGood hs) (ob : Ob) {size : Int} (h0 : 0 ≤ size) (hc : hs.pool.count < 65536) : HGood (addO hs ob size).1 := by
  unfold addO
  by_cases hroom : hs.max < hs.pool.used + size
  · rw [if_pos hroom]; exact hG
  rw [if_neg hroom]
  obtain ⟨t1, t2, t3⟩ := take_new hG h0 hroom hc
  obtain ⟨u1, u2, u3, u4⟩ := takeP_has hG h0 hroom hc
  refine ⟨hG.pool.take size, u1.trans hG.bound, hG.max, ?_, fun q hq => ?_, ?_, ?_⟩
  · simp only [List.map_append, List.map_cons, List.map_nil]
    refine List.nodup_append.2 ⟨hG.keys, by simp, fun a ha b hb => ?_⟩
    simp only [List.mem_singleton] at hb
    subst hb
    intro e
    subst e
    obtain ⟨q, hq, he⟩ := List.mem_map.1 ha
    have := hG.ids q hq
    rw [he, t2] at this; cases this
  · simp only [List.mem_append, List.mem_singleton] at hq
    rcases hq with hq | rfl
    · exact u4 _ (hG.ids q hq)
    · exact u3
  · simp only [u2, hG.cnt, List.length_append, List.length_cons, List.length_nil]
    omega
  · have := hG.made0
    simp only
    split <;> omega
theorem HGood.cell {hs : HS} (hG : HGood hs) (v : VV) (hc : hs.pool.count < 65536) : HGood (cellO hs v).1 := by
  unfold cellO
  split
  · exact hG.add _ (by decide) hc
  · exact hG
theorem takeP_le {hs : HS} (hG : HGood hs) {size : Int} (h0 : 0 ≤ size) (hroom : ¬ hs.max < hs.pool.used + size) (hc : hs.pool.count < 65536) : (takeP hs.pool size).1.used = hs.pool.used + size ∧ (takeP hs.pool size).1.sizes.length ≤ hs.pool.sizes.length + 1 := by
  have hcnt := hG.pool.cnt
  have hb := hG.bound
  unfold takeP
  rw [if_neg (by omega), if_neg (fun h => h.elim (fun h => by omega) (fun h => by omega))]
  by_cases h4 : hs.pool.free.length = 0
  · rw [if_pos h4]
    exact ⟨rfl, by simp⟩
  · rw [if_neg h4]
    exact ⟨rfl, by simp⟩
theorem look_add (l : List (Int × Ob)) (d : Int) (ob : Ob) (q : Int) : lookO (l ++ [(d, ob)]) q = match lookO l q with
    | some x => some x
    | none => if d = q then some ob else none := by
  unfold lookO
  rw [List.find?_append]
  cases h : l.find? (fun p => decide (p.1 = q)) with
  | some p => rfl
  | none =>
    simp only [Option.none_or, Option.map_none, List.find?_cons, List.find?_nil]
    by_cases e : d = q
    · simp [e]
    · simp [e]
theorem find_add_old {hs : HS} (ob : Ob) (size : Int) {v : VV} {x : Ob} (h : findO hs v = some x) : findO (addO hs ob size).1 v = some x := by
  unfold addO
  split
  · exact h
  · unfold findO at h ⊢
    cases hk : holdsK v.1 with
    | false => rw [hk] at h; simp at h
    | true =>
      rw [hk] at h
      simp only [if_true] at h ⊢
      rw [look_add]
      cases e : lookO hs.objs v.2 with
      | none => rw [e] at h; cases h
      | some y => rw [e] at h; exact h
theorem find_add_new {hs : HS} (hG : HGood hs) (ob : Ob) {size : Int} (h0 : 0 ≤ size) (hroom : ¬ hs.max < hs.pool.used + size) (hc : hs.pool.count < 65536) (hk : holdsK ob.kind = true) : findO (addO hs ob size).1 (addO hs ob size).2.1 = some { ob with serial := if serialK ob.kind = true then hs.made + 1 else ob.serial } := by
  have hn := new_key hG (take_new hG h0 hroom hc).2.1
  unfold addO
  rw [if_neg hroom]
  unfold findO
  simp only [hk, if_true]
  rw [look_add, hn]
  simp only [if_true]
theorem ofO_look {hs : HS} {c : VV} {k : Int} {ob : Ob} (h : ofO hs c k = some ob) : c.1 = k ∧ lookO hs.objs c.2 = some ob ∧ ob.kind = c.1 := by
  unfold ofO at h
  split at h
  · rename_i hk
    refine ⟨hk, ?_⟩
    unfold findO at h
    split at h
    · cases e : lookO hs.objs c.2 with
      | none => rw [e] at h; cases h
      | some y =>
        rw [e] at h
        simp only at h
        split at h
        · rename_i h2; cases h; exact ⟨rfl, h2⟩
        · cases h
    · cases h
  · cases h
end Go.Proofs.Ythnlkahgmbadoaa
