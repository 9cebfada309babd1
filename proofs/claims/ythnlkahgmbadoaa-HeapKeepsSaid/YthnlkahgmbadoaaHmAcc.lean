/- Heap: a good heap stays good when something is freed, or a table or a cell is turned; what the sizes come to. Plain. -/
import Derived.Test.YthnlkahgmbadoaaHmFree
import Derived.Test.YthnlkahgmbadoaaHmSet
import Derived.Test.YthnlkahgmbadoaaHmStore
namespace Go.Proofs.Ythnlkahgmbadoaa
open Go.RowKit
set_option linter.unusedSimpArgs false
set_option linter.unusedVariables false
set_option maxRecDepth 100000

theorem erase_filter {l : List (Int × Ob)} (hn : (l.map (·.1)).Nodup) (d : Int) : l.eraseP (fun q => decide (q.1 = d)) = l.filter fun q => decide (q.1 ≠ d) := by
  induction l with
  | nil => rfl
  | cons q l ih =>
    simp only [List.map_cons, List.nodup_cons] at hn
    by_cases e : q.1 = d
    · rw [List.eraseP_cons_of_pos (by simp [e]), List.filter_cons_of_neg (by simp [e])]
      refine (List.filter_eq_self.2 fun x hx => ?_).symm
      have : x.1 ≠ d := fun e2 => hn.1 (by rw [e, ← e2]; exact List.mem_map.2 ⟨x, hx, rfl⟩)
      simp [this]
    · rw [List.eraseP_cons_of_neg (by simp [e]), List.filter_cons_of_pos (by simp [e]), ih hn.2]
theorem hasP_iff {st : PS} {id : Int} : hasP st id = true ↔ 1 ≤ id ∧ id ≤ st.sizes.length ∧ 0 ≤ st.sizes.getD (id - 1).toNat 0 := by
  unfold hasP
  simp only [Bool.and_eq_true, decide_eq_true_eq, and_assoc]
theorem getD_other {l : List Int} {j k : Nat} (x : Int) (h : j ≠ k) : (l.set j x).getD k 0 = l.getD k 0 := by
  simp only [List.getD, List.getElem?_set_ne h]
theorem giveP_ok {st : PS} {id : Int} (h : hasP st id = true) : (giveP st id).2 = 0 ∧ (giveP st id).1.bound = st.bound ∧ (giveP st id).1.count = st.count - 1 ∧ (giveP st id).1.used = st.used - st.sizes.getD (id - 1).toNat 0 ∧ (giveP st id).1.sizes.length = st.sizes.length ∧
    (∀ q, q ≠ id → hasP st q = true → hasP (giveP st id).1 q = true ∧ (giveP st id).1.sizes.getD (q - 1).toNat 0 = st.sizes.getD (q - 1).toNat 0) := by
  unfold giveP
  rw [if_pos h]
  have h2 := hasP_iff.1 h
  refine ⟨rfl, rfl, rfl, rfl, by simp, fun q hq hh => ?_⟩
  have h3 := hasP_iff.1 hh
  have e : (st.sizes.set (id - 1).toNat (-1)).getD (q - 1).toNat 0 = st.sizes.getD (q - 1).toNat 0 := getD_other _ (by omega)
  refine ⟨hasP_iff.2 ⟨h3.1, by simpa using h3.2.1, ?_⟩, e⟩
  simp only
  rw [e]; exact h3.2.2
theorem HGood.free {hs : HS} (hG : HGood hs) {v : VV} {ob : Ob} (hf : findO hs v = some ob) : (giveP hs.pool v.2).2 = 0 ∧ HGood (freeH hs v.2 ob) := by
  obtain ⟨hm, _⟩ := found_in hf
  have hid := hG.ids _ hm
  simp only at hid
  obtain ⟨g1, g2, g3, g4, g5, g6⟩ := giveP_ok hid
  refine ⟨g1, ⟨hG.pool.give v.2, g2.trans hG.bound, hG.max, ?_, fun q hq => ?_, ?_, hG.made0⟩⟩
  · exact hG.keys.sublist ((List.eraseP_sublist).map _)
  · have hq : q ∈ hs.objs.eraseP (fun q => decide (q.1 = v.2)) := hq
    rw [erase_filter hG.keys] at hq
    obtain ⟨h1, h2⟩ := List.mem_filter.1 hq
    exact (g6 q.1 (by simpa using h2) (hG.ids q h1)).1
  · show (giveP hs.pool v.2).1.count = _
    rw [g3, hG.cnt]
    have : (hs.objs.eraseP (fun q => decide (q.1 = v.2))).length = hs.objs.length - 1 := List.length_eraseP_of_mem hm (by simp)
    have h2 : 0 < hs.objs.length := List.length_pos_of_mem hm
    show _ = ((hs.objs.eraseP (fun q => decide (q.1 = v.2))).length : Int)
    rw [this]; omega
/-- an object's size -/
def szO (ob : Ob) : Int := if ob.kind = 4 then 1 + Int.ofNat ob.text.1.toList.length / 16 else if ob.kind = 5 then 2 + 2 * Int.ofNat (liveN ob.tab) else if ob.kind = 6 then 2 + Int.ofNat ob.cells.length else if ob.kind = 9 then 1 else 8
def sumO (l : List (Int × Ob)) : Int := (l.map fun q => szO q.2).sum
/-- what the sizes come to -/
structure Acc (hs : HS) : Prop where
  sz : ∀ q ∈ hs.objs, hs.pool.sizes.getD (q.1 - 1).toNat 0 = szO q.2
  used : hs.pool.used = sumO hs.objs
theorem sumO_app (l m : List (Int × Ob)) : sumO (l ++ m) = sumO l + sumO m := by simp [sumO]
theorem takeP_sz {hs : HS} (hG : HGood hs) {size : Int} (h0 : 0 ≤ size) (hroom : ¬ hs.max < hs.pool.used + size) (hc : hs.pool.count < 65536) :
    (takeP hs.pool size).1.sizes.getD ((takeP hs.pool size).2.1 - 1).toNat 0 = size ∧ ∀ q, hasP hs.pool q = true → (takeP hs.pool size).1.sizes.getD (q - 1).toNat 0 = hs.pool.sizes.getD (q - 1).toNat 0 := by
  have hP := hG.pool
  have hcnt := hP.cnt
  have hb := hG.bound
  unfold takeP
  rw [if_neg (by omega), if_neg (fun h => h.elim (fun h => by omega) (fun h => by omega))]
  by_cases h4 : hs.pool.free.length = 0
  · rw [if_pos h4]
    refine ⟨?_, fun q hq => ?_⟩
    · have e : ((hs.pool.sizes.length : Int) + 1 - 1).toNat = hs.pool.sizes.length := by omega
      simp only [e]
      simp [List.getD]
    · have h3 := hasP_iff.1 hq
      have hl : (q - 1).toNat < hs.pool.sizes.length := by omega
      simp only [List.getD, List.getElem?_append_left hl]
  · rw [if_neg h4]
    obtain ⟨k, h1, h2, h3, _⟩ := hP.top (by omega)
    refine ⟨?_, fun q hq => ?_⟩
    · have e : ((k : Int) + 1 - 1).toNat = k := by omega
      simp only [h1, e]
      simp [List.getD, h2]
    · have h5 := hasP_iff.1 hq
      simp only [h1]
      refine getD_other _ fun e => ?_
      have e2 : ((k : Int) + 1 - 1).toNat = k := by omega
      have e : (k : Int).toNat = (q - 1).toNat := by simpa using e
      have : (q - 1).toNat = k := by omega
      rw [this] at h5
      omega
theorem szO_serial (ob : Ob) (s : Int) : szO { ob with serial := s } = szO ob := rfl
theorem Acc.add {hs : HS} (hA : Acc hs) (hG : HGood hs) (ob : Ob) {size : Int} (h0 : 0 ≤ size) (hs0 : size = szO ob) (hc : hs.pool.count < 65536) : Acc (addO hs ob size).1 := by
  unfold addO
  by_cases hroom : hs.max < hs.pool.used + size
  · rw [if_pos hroom]; exact hA
  rw [if_neg hroom]
  obtain ⟨s1, s2⟩ := takeP_sz hG h0 hroom hc
  obtain ⟨u1, _⟩ := takeP_le hG h0 hroom hc
  refine ⟨fun q hq => ?_, ?_⟩
  · rcases List.mem_append.1 hq with hq | hq
    · simp only
      rw [s2 _ (hG.ids q hq)]; exact hA.sz q hq
    · simp only [List.mem_singleton] at hq
      subst hq
      simp only
      rw [s1, hs0]; rfl
  · simp only
    rw [u1, hA.used, sumO_app, hs0]
    simp [sumO, szO_serial]
theorem sumO_erase {l : List (Int × Ob)} {d : Int} {ob : Ob} (hn : (l.map (·.1)).Nodup) (hm : (d, ob) ∈ l) : sumO (l.eraseP fun q => decide (q.1 = d)) = sumO l - szO ob := by
  induction l with
  | nil => cases hm
  | cons q l ih =>
    simp only [List.map_cons, List.nodup_cons] at hn
    rcases List.mem_cons.1 hm with e | h2
    · subst e
      rw [List.eraseP_cons_of_pos (by simp)]
      simp only [sumO, List.map_cons, List.sum_cons]; omega
    · have : q.1 ≠ d := fun e => hn.1 (by rw [e]; exact List.mem_map.2 ⟨_, h2, rfl⟩)
      rw [List.eraseP_cons_of_neg (by simp [this])]
      have := ih hn.2 h2
      simp only [sumO, List.map_cons, List.sum_cons] at this ⊢; omega
theorem Acc.free {hs : HS} (hA : Acc hs) (hG : HGood hs) {v : VV} {ob : Ob} (hf : findO hs v = some ob) : Acc (freeH hs v.2 ob) := by
  obtain ⟨hm, _⟩ := found_in hf
  have hid := hG.ids _ hm
  simp only at hid
  obtain ⟨g1, g2, g3, g4, g5, g6⟩ := giveP_ok hid
  refine ⟨fun q hq => ?_, ?_⟩
  · have hq : q ∈ hs.objs.eraseP (fun q => decide (q.1 = v.2)) := hq
    rw [erase_filter hG.keys] at hq
    obtain ⟨h1, h2⟩ := List.mem_filter.1 hq
    exact (g6 q.1 (by simpa using h2) (hG.ids q h1)).2.trans (hA.sz q h1)
  · show (giveP hs.pool v.2).1.used = sumO (hs.objs.eraseP (fun q => decide (q.1 = v.2)))
    rw [g4, sumO_erase hG.keys hm, hA.used, ← hA.sz _ hm]
theorem setOb_mem {l : List (Int × Ob)} {d : Int} {ob : Ob} {q : Int × Ob} (h : q ∈ setOb l d ob) : (q.1 ≠ d ∧ q ∈ l) ∨ (q = (d, ob) ∧ ∃ x, (d, x) ∈ l) := by
  unfold setOb at h
  obtain ⟨p, hp, e⟩ := List.mem_map.1 h
  by_cases e1 : p.1 = d
  · rw [if_pos e1] at e
    refine .inr ⟨by rw [← e, e1], p.2, ?_⟩
    rw [← e1]; exact hp
  · rw [if_neg e1] at e
    subst e; exact .inl ⟨e1, hp⟩
theorem sumO_set {l : List (Int × Ob)} {d : Int} {ob ob' : Ob} (hn : (l.map (·.1)).Nodup) (hm : (d, ob) ∈ l) : sumO (setOb l d ob') = sumO l - szO ob + szO ob' := by
  induction l with
  | nil => cases hm
  | cons q l ih =>
    simp only [List.map_cons, List.nodup_cons] at hn
    rcases List.mem_cons.1 hm with e | h2
    · subst e
      have : setOb l d ob' = l := by
        unfold setOb
        conv => rhs; rw [← List.map_id l]
        refine List.map_congr_left fun x hx => ?_
        have : x.1 ≠ d := fun e => hn.1 (by rw [← e]; exact List.mem_map.2 ⟨x, hx, rfl⟩)
        rw [if_neg this]; rfl
      have e2 : setOb ((d, ob) :: l) d ob' = (d, ob') :: setOb l d ob' := by simp [setOb]
      rw [e2, this]
      simp only [sumO, List.map_cons, List.sum_cons]; omega
    · have : q.1 ≠ d := fun e => hn.1 (by rw [e]; exact List.mem_map.2 ⟨_, h2, rfl⟩)
      have e2 : setOb (q :: l) d ob' = q :: setOb l d ob' := by simp [setOb, this]
      rw [e2]
      have := ih hn.2 h2
      simp only [sumO, List.map_cons, List.sum_cons] at this ⊢; omega
theorem resizeP_ok {st : PS} {id size : Int} (h : hasP st id = true) (h0 : 0 ≤ size) (hr : ¬ st.bound - st.used + st.sizes.getD (id - 1).toNat 0 < size) : resizeP st id size = ({ st with used := st.used + (size - st.sizes.getD (id - 1).toNat 0), sizes := st.sizes.set (id - 1).toNat size }, 0) := by
  unfold resizeP
  rw [if_neg (fun e => e.elim (fun e => by rw [h] at e; cases e) (by omega)), if_neg hr]
/-- behind a table's Set -/
theorem HGood.set {hs : HS} (hG : HGood hs) (hA : Acc hs) {d : Int} {ob : Ob} (hm : (d, ob) ∈ hs.objs) (hk5 : ob.kind = 5) (k v : VV) (hr : hs.pool.used - szO ob + (2 + 2 * Int.ofNat (liveN (setL ob.tab k v))) ≤ hs.max) :
    (resizeP hs.pool d (2 + 2 * Int.ofNat (liveN (setL ob.tab k v)))).2 = 0 ∧ HGood (setH hs d ob k v) ∧ Acc (setH hs d ob k v) ∧ (setH hs d ob k v).pool.used = hs.pool.used - szO ob + (2 + 2 * Int.ofNat (liveN (setL ob.tab k v))) ∧ (setH hs d ob k v).pool.sizes.length = hs.pool.sizes.length := by
  have hid := hG.ids _ hm
  simp only at hid
  have hsz := hA.sz _ hm
  simp only at hsz
  have hb := hG.bound
  obtain ⟨S, hS⟩ : ∃ S, 2 + 2 * Int.ofNat (liveN (setL ob.tab k v)) = S := ⟨_, rfl⟩
  have hS0 : 0 ≤ S := by simp only [Int.ofNat_eq_natCast] at hS; omega
  unfold setH
  rw [hS] at hr ⊢
  have hR := resizeP_ok (size := S) hid hS0 (by omega)
  have hGp := hG.pool.resize d S
  rw [hR] at hGp ⊢
  have h2 := hasP_iff.1 hid
  have hszO : szO { ob with tab := setL ob.tab k v } = S := by unfold szO; rw [if_neg (by simp only; omega), if_pos (by simpa using hk5), ← hS]
  have hj : (d - 1).toNat < hs.pool.sizes.length := by omega
  refine ⟨rfl, ⟨hGp, hb, hG.max, ?_, fun q hq => ?_, ?_, hG.made0⟩, ⟨fun q hq => ?_, ?_⟩, ?_, ?_⟩
  · have : (setOb hs.objs d { ob with tab := setL ob.tab k v }).map (·.1) = hs.objs.map (·.1) := by
      unfold setOb
      rw [List.map_map]
      refine List.map_congr_left fun q _ => ?_
      simp only [Function.comp]
      split <;> rfl
    rw [this]; exact hG.keys
  · have hq1 : hasP hs.pool q.1 = true := by
      rcases setOb_mem hq with ⟨_, h⟩ | ⟨e, x, hx⟩
      · exact hG.ids q h
      · rw [e]; exact hid
    have h3 := hasP_iff.1 hq1
    exact hasP_iff.2 ⟨h3.1, by simpa using h3.2.1, hasP_set hS0 _ h3.2.2⟩
  · simp only [setOb, List.length_map]; exact hG.cnt
  · simp only
    rcases setOb_mem hq with ⟨h1, h⟩ | ⟨e, x, hx⟩
    · have h3 := hasP_iff.1 (hG.ids q h)
      rw [getD_other _ (by omega)]; exact hA.sz q h
    · rw [e]
      simp only
      rw [hszO]
      exact getD_set _ _ _ hj
  · simp only
    rw [sumO_set hG.keys hm, hszO, hA.used, hsz, ← hA.used]; omega
  · simp only
    rw [hsz]; omega
  · simp
theorem Acc.store {hs : HS} (hA : Acc hs) (hG : HGood hs) (c v : VV) : Acc (storeO hs c v).1 := by
  unfold storeO
  split
  · exact hA
  · rename_i ob ho
    split
    · obtain ⟨h1, h2, h3⟩ := ofO_look ho
      have hm := look_mem h2
      have e9 : ob.kind = 9 := h3.trans h1
      have hz : szO { ob with has := v } = szO ob := rfl
      refine ⟨fun q hq => ?_, ?_⟩
      · rcases setOb_mem hq with ⟨h1, h⟩ | ⟨e, x, hx⟩
        · exact hA.sz q h
        · rw [e]; simp only; rw [hz]; exact hA.sz _ hm
      · simp only
        rw [sumO_set hG.keys hm, hz, hA.used]; omega
    · exact hA
end Go.Proofs.Ythnlkahgmbadoaa
