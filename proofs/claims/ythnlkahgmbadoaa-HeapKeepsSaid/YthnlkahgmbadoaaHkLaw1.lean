/- HeapKeeps: what each call makes of the law's heap. Plain. -/
import Derived.Test.YthnlkahgmbadoaaHkLaw0
namespace Go.Proofs.Ythnlkahgmbadoaa
open Go.RowKit
set_option linter.unusedSimpArgs false
set_option linter.unusedVariables false
set_option maxRecDepth 100000

theorem kp_free {hs : HS} {c : Nat} (h : KP hs c) (v : VV) {ob : Ob} (hf : findO hs v = some ob) : (freeO hs v).2 = 0 ∧ KP (freeO hs v).1 c ∧ (freeO hs v).1.objs = hs.objs.eraseP fun q => decide (q.1 = v.2) := by
  obtain ⟨g1, g2⟩ := h.good.free hf
  have ha := h.acc.free h.good hf
  obtain ⟨hm, _⟩ := found_in hf
  have hid := h.good.ids _ hm
  obtain ⟨_, _, _, _, e5, _⟩ := giveP_ok hid
  have e : freeO hs v = (freeH hs v.2 ob, (giveP hs.pool v.2).2) := by unfold freeO; rw [hf]
  rw [e]
  refine ⟨g1, ⟨g2, ha, h.watch, h.max, fun q hq => h.shape q (List.mem_of_mem_eraseP hq), ?_, h.made⟩, rfl⟩
  show (giveP hs.pool v.2).1.sizes.length ≤ c
  have := h.sizes
  simp only at e5
  omega
theorem free_none {hs : HS} {v : VV} (hf : findO hs v = none) : freeO hs v = (hs, 151) := by unfold freeO; rw [hf]
theorem kp_cell {hs : HS} {c : Nat} (h : KP hs c) (hc : c ≤ 900) (n : Int) : ((cellO hs (3, n)).2.2 ≠ 0 ∧ (cellO hs (3, n)).1 = hs) ∨
    ((cellO hs (3, n)).2.2 = 0 ∧ KP (cellO hs (3, n)).1 (c + 1) ∧ ∃ d ob, (cellO hs (3, n)).2.1 = (9, d) ∧ (cellO hs (3, n)).1.objs = hs.objs ++ [(d, ob)] ∧ ob.kind = 9 ∧ ob.has = (3, n) ∧ d ∉ hs.objs.map (·.1)) := by
  have e : cellO hs (3, n) = addO hs (cellOb (3, n)) 1 := by unfold cellO; rw [if_pos (keep3 hs n)]
  rw [e]
  by_cases hroom : hs.max < hs.pool.used + 1
  · refine .inl ?_
    unfold addO
    rw [if_pos hroom]
    exact ⟨show (152 : Int) ≠ 0 by decide, rfl⟩
  · obtain ⟨a1, a2, a3, a4, a5, a6, a7, a8, a9, a10, ob, b1, b2, b3, b4, b5⟩ := h.add (by omega) (cellOb (3, n)) (size := 1) (by decide) rfl hroom
    refine .inr ⟨a1, ⟨a3, a4, a5, a6, fun q hq => ?_, a7, a8⟩, (addO hs (cellOb (3, n)) 1).2.1.2, ob, ?_, b1, b2, b3, b5⟩
    · rw [b1] at hq
      rcases List.mem_append.1 hq with hq | hq
      · exact h.shape q hq
      · simp only [List.mem_singleton] at hq
        subst hq
        exact .inl ⟨b2, by rw [b3]; rfl⟩
    · exact Prod.ext a2 rfl
/-- a cell that was made goes again -/
theorem kp_gone {hs hs1 : HS} {c : Nat} (h1 : KP hs1 c) {d : Int} {ob : Ob} (ho : hs1.objs = hs.objs ++ [(d, ob)]) (hd : d ∉ hs.objs.map (·.1)) : (freeO hs1 (ob.kind, d)).2 = 0 ∧ KP (freeO hs1 (ob.kind, d)).1 c ∧ (freeO hs1 (ob.kind, d)).1.objs = hs.objs := by
  have hm : (d, ob) ∈ hs1.objs := by rw [ho]; simp
  have hf : findO hs1 (ob.kind, d) = some ob := (find_iff h1.good).2 ⟨(h1.shape _ hm).holds.1, hm, rfl⟩
  obtain ⟨a1, a2, a3⟩ := kp_free h1 _ hf
  refine ⟨a1, a2, a3.trans ?_⟩
  rw [ho]; exact erase_last hd
theorem setL_one (n : Int) : setL [] (3, 1) (3, n) = [((3, 1), (3, n))] := rfl
theorem setL_two (m n : Int) : setL [((3, 1), (3, m))] (3, 1) (3, n) = [((3, 1), (3, n))] := rfl
theorem live_one (n : Int) : liveN [((3, 1), (3, n))] = 1 := rfl
/-- a table with its one key -/
theorem kp_table {hs : HS} {c : Nat} (h : KP hs c) (hc : c ≤ 900) (n : Int) : ((tableO hs).2.2 ≠ 0 ∧ (tableO hs).1 = hs) ∨
    ((tableO hs).2.2 = 0 ∧ ∃ d ob, (tableO hs).2.1 = (5, d) ∧ ofO (tableO hs).1 (5, d) 5 = some ob ∧ ob.tab = [] ∧ HGood (tableO hs).1 ∧ (tableO hs).1.watch = false ∧ (tableO hs).1.pool.sizes.length ≤ c + 1 ∧ (tableO hs).1.made ≤ (c + 1 : Nat) ∧ d ∉ hs.objs.map (·.1) ∧
      (¬ ((getL ob.tab (3, 1)).1 = 0 ∧ (3 : Int) ≠ 0 ∧ (tableO hs).1.max < (tableO hs).1.pool.used + 2) → (resizeP (tableO hs).1.pool d (2 + 2 * Int.ofNat (liveN (setL ob.tab (3, 1) (3, n))))).2 = 0) ∧
      (((setO (tableO hs).1 (5, d) (3, 1) (3, n)).2 ≠ 0 ∧ HGood (setO (tableO hs).1 (5, d) (3, 1) (3, n)).1 ∧ (setO (tableO hs).1 (5, d) (3, 1) (3, n)).1.pool.sizes.length ≤ c + 1 ∧ (freeO (setO (tableO hs).1 (5, d) (3, 1) (3, n)).1 (5, d)).2 = 0 ∧ KP (freeO (setO (tableO hs).1 (5, d) (3, 1) (3, n)).1 (5, d)).1 (c + 1) ∧ (freeO (setO (tableO hs).1 (5, d) (3, 1) (3, n)).1 (5, d)).1.objs = hs.objs) ∨
       ((setO (tableO hs).1 (5, d) (3, 1) (3, n)).2 = 0 ∧ KP (setO (tableO hs).1 (5, d) (3, 1) (3, n)).1 (c + 1) ∧ ∃ ob', (setO (tableO hs).1 (5, d) (3, 1) (3, n)).1.objs = hs.objs ++ [(d, ob')] ∧ ob'.kind = 5 ∧ ob'.tab = [((3, 1), (3, n))]))) := by
  unfold tableO
  by_cases hroom : hs.max < hs.pool.used + 2
  · refine .inl ?_
    unfold addO
    rw [if_pos hroom]
    exact ⟨show (152 : Int) ≠ 0 by decide, rfl⟩
  obtain ⟨a1, a2, a3, a4, a5, a6, a7, a8, a9, a10, ob, b1, b2, b3, b4, b5⟩ := h.add (by omega) tabOb (size := 2) (by decide) rfl hroom
  generalize hA : addO hs tabOb 2 = A at *
  obtain ⟨hs1, ⟨k, d⟩, er⟩ := A
  simp only at a1 a2 a3 a4 a5 a6 a7 a8 a9 a10 b1 b5
  subst a1
  have a2 : k = 5 := a2
  subst a2
  have b2 : ob.kind = 5 := b2
  have b4 : ob.tab = [] := b4
  have hm : (d, ob) ∈ hs1.objs := by rw [b1]; simp
  have hf : findO hs1 (5, d) = some ob := (find_iff a3).2 ⟨show holdsK 5 = true by decide, hm, b2⟩
  have ho : ofO hs1 (5, d) 5 = some ob := by unfold ofO; rw [if_pos rfl]; exact hf
  have hsz : szO ob = 2 := by unfold szO; rw [b2, b4]; rfl
  have hg0 : (getL ob.tab (3, 1)).1 = 0 := by rw [b4]; rfl
  refine .inr ⟨rfl, d, ob, rfl, ho, b4, a3, a5, a7, a8, b5, fun hn => ?_, ?_⟩
  · refine (a3.set a4 hm b2 (3, 1) (3, n) ?_).1
    rw [b4, setL_one, live_one, hsz]
    have : ¬ hs1.max < hs1.pool.used + 2 := fun h => hn ⟨hg0, by decide, h⟩
    simp only [Int.ofNat_eq_natCast]
    omega
  · by_cases hfull : hs1.max < hs1.pool.used + 2
    · refine .inl ?_
      have e : setO hs1 (5, d) (3, 1) (3, n) = (hs1, 152) := by
        unfold setO
        rw [ho]
        simp only
        rw [if_neg (by rw [keep3, keep3]; simp), if_pos ⟨hg0, by decide, hfull⟩]
      rw [e]
      have ef : freeO hs1 (5, d) = (freeH hs1 d ob, (giveP hs1.pool d).2) := by unfold freeO; rw [hf]
      obtain ⟨g1, g2⟩ := a3.free hf
      have ha := a4.free a3 hf
      have hid := a3.ids _ hm
      obtain ⟨_, _, _, _, e5, _⟩ := giveP_ok hid
      have eo : (freeH hs1 d ob).objs = hs.objs := by
        show hs1.objs.eraseP _ = _
        rw [b1]; exact erase_last b5
      refine ⟨by simp, a3, a7, ?_, ?_, ?_⟩
      · rw [ef]; exact g1
      · rw [ef]
        refine ⟨g2, ha, a5, a6, fun q hq => ?_, ?_, a8⟩
        · have hq : q ∈ (freeH hs1 d ob).objs := hq
          rw [eo] at hq
          exact h.shape q hq
        · show (giveP hs1.pool d).1.sizes.length ≤ c + 1
          simp only at e5
          omega
      · rw [ef]; exact eo
    · refine .inr ?_
      have e : setO hs1 (5, d) (3, 1) (3, n) = (setH hs1 d ob (3, 1) (3, n), 0) := by
        unfold setO
        rw [ho]
        simp only
        rw [if_neg (by rw [keep3, keep3]; simp), if_neg (fun h => hfull h.2.2)]
      obtain ⟨_, s2, s3, s4, s5⟩ := a3.set a4 hm b2 (3, 1) (3, n) (by
        rw [b4, setL_one, live_one, hsz]
        simp only [Int.ofNat_eq_natCast]
        omega)
      rw [e]
      have eo : (setH hs1 d ob (3, 1) (3, n)).objs = hs.objs ++ [(d, { ob with tab := [((3, 1), (3, n))] })] := by
        show setOb hs1.objs d { ob with tab := setL ob.tab (3, 1) (3, n) } = _
        rw [b1, b4, setL_one]
        unfold setOb
        rw [List.map_append]
        congr 1
        · conv => rhs; rw [← List.map_id hs.objs]
          refine List.map_congr_left fun q hq => ?_
          have : q.1 ≠ d := fun e => b5 (by rw [← e]; exact List.mem_map.2 ⟨q, hq, rfl⟩)
          rw [if_neg this]; rfl
        · simp
      refine ⟨rfl, ⟨s2, s3, a5, a6, fun q hq => ?_, ?_, a8⟩, _, eo, b2, rfl⟩
      · have hq : q ∈ (setH hs1 d ob (3, 1) (3, n)).objs := hq
        rw [eo] at hq
        rcases List.mem_append.1 hq with hq | hq
        · exact h.shape q hq
        · simp only [List.mem_singleton] at hq
          subst hq
          exact .inr ⟨b2, _, rfl⟩
      · show (setH hs1 d ob (3, 1) (3, n)).pool.sizes.length ≤ c + 1
        rw [s5]; exact a7
/-! ### what is there is turned -/
theorem kp_store {hs : HS} {c : Nat} (h : KP hs c) {v : VV} {ob : Ob} (hv : v.1 = 9) (hf : findO hs v = some ob) (n : Int) : (storeO hs v (3, n)).2 = 0 ∧ KP (storeO hs v (3, n)).1 c ∧ (storeO hs v (3, n)).1.objs = setOb hs.objs v.2 { ob with has := (3, n) } := by
  have ho : ofO hs v 9 = some ob := by unfold ofO; rw [if_pos hv]; exact hf
  have hg := h.good.store v (3, n)
  have ha := h.acc.store h.good v (3, n)
  have e : storeO hs v (3, n) = ({ hs with objs := setOb hs.objs v.2 { ob with has := (3, n) }, noted := noteL hs v.2 }, 0) := by unfold storeO; rw [ho]; simp only; rw [if_pos (keep3 hs n)]
  rw [e] at hg ha ⊢
  refine ⟨rfl, ⟨hg, ha, h.watch, h.max, fun q hq => ?_, h.sizes, h.made⟩, rfl⟩
  rcases setOb_mem hq with ⟨_, hq⟩ | ⟨e2, x, hx⟩
  · exact h.shape q hq
  · rw [e2]
    exact .inl ⟨((find_iff h.good).1 hf).2.2.trans hv, rfl⟩
theorem kp_set {hs : HS} {c : Nat} (h : KP hs c) {v : VV} {ob : Ob} (hv : v.1 = 5) (hf : findO hs v = some ob) (n : Int) : (setO hs v (3, 1) (3, n)).2 = 0 ∧ KP (setO hs v (3, 1) (3, n)).1 c ∧ (setO hs v (3, 1) (3, n)).1.objs = setOb hs.objs v.2 { ob with tab := [((3, 1), (3, n))] } ∧
    ob.tab.length = 1 ∧ (resizeP hs.pool v.2 (2 + 2 * Int.ofNat (liveN (setL ob.tab (3, 1) (3, n))))).2 = 0 := by
  obtain ⟨_, hm, hk⟩ := (find_iff h.good).1 hf
  have hk5 : ob.kind = 5 := hk.trans hv
  have hsh := h.shape _ hm
  obtain ⟨m, ht⟩ : ∃ m, ob.tab = [((3, 1), (3, m))] := by
    rcases hsh with ⟨e, _⟩ | ⟨_, e⟩
    · simp only at e; omega
    · exact e
  have ho : ofO hs v 5 = some ob := by unfold ofO; rw [if_pos hv]; exact hf
  have hsz : szO ob = 4 := by unfold szO; rw [hk5, ht]; rfl
  have hle := h.good.pool.le
  have hb := h.good.bound
  obtain ⟨s1, s2, s3, s4, s5⟩ := h.good.set h.acc hm hk5 (3, 1) (3, n) (by
    rw [ht, setL_two, live_one, hsz]
    simp only [Int.ofNat_eq_natCast]
    omega)
  have e : setO hs v (3, 1) (3, n) = (setH hs v.2 ob (3, 1) (3, n), 0) := by
    unfold setO
    rw [ho]
    simp only
    rw [if_neg (by rw [keep3, keep3]; simp), if_neg (fun h => ?_)]
    have := h.1
    rw [ht] at this
    exact absurd this (show ¬ (3 : Int) = 0 by decide)
  have eo : (setH hs v.2 ob (3, 1) (3, n)).objs = setOb hs.objs v.2 { ob with tab := [((3, 1), (3, n))] } := by
    show setOb hs.objs v.2 { ob with tab := setL ob.tab (3, 1) (3, n) } = _
    rw [ht, setL_two]
  rw [e]
  refine ⟨rfl, ⟨s2, s3, h.watch, h.max, fun q hq => ?_, by rw [s5]; exact h.sizes, h.made⟩, eo, by rw [ht]; rfl, s1⟩
  have hq : q ∈ (setH hs v.2 ob (3, 1) (3, n)).objs := hq
  rw [eo] at hq
  rcases setOb_mem hq with ⟨_, hq⟩ | ⟨e2, x, hx⟩
  · exact h.shape q hq
  · rw [e2]
    exact .inr ⟨hk5, _, rfl⟩
theorem store_none {hs : HS} {v w : VV} (hf : findO hs v = none) : storeO hs v w = (hs, 151) := by
  have ho : ofO hs v 9 = none := by unfold ofO; split <;> first | exact hf | rfl
  unfold storeO; rw [ho]
theorem set_none {hs : HS} {v k w : VV} (hf : findO hs v = none) : ofO hs v 5 = none ∧ setO hs v k w = (hs, 151) := by
  have ho : ofO hs v 5 = none := by unfold ofO; split <;> first | exact hf | rfl
  refine ⟨ho, ?_⟩
  unfold setO; rw [ho]
/-! ### the map of what is there -/
theorem want_new (l : List (Int × Ob)) (d : Int) (ob : Ob) (hd : d ∉ l.map (·.1)) : keyOf (d, ob) ∉ l.map keyOf ∧ putK (keyOf (d, ob)) (.int .i64 (numOf ob)) (wantKV l) = wantKV (l ++ [(d, ob)]) := by
  have hn : keyOf (d, ob) ∉ l.map keyOf := fun h => by
    obtain ⟨q, hq, e⟩ := List.mem_map.1 h
    have e : keyOf q = keyOf (d, ob) := e
    have : q.1 = d := congrArg Prod.snd e
    exact hd (by rw [← this]; exact List.mem_map.2 ⟨q, hq, rfl⟩)
  refine ⟨hn, ?_⟩
  rw [putK_none keyOf (fun q => .int .i64 (numOf q.2)) _ _ l hn]
  simp
theorem want_set {hs : HS} (hG : HGood hs) {v : VV} {ob ob' : Ob} (hm : (v.2, ob) ∈ hs.objs) (hk : ob.kind = v.1) (hk' : ob'.kind = v.1) : putK v (.int .i64 (numOf ob')) (wantKV hs.objs) = wantKV (setOb hs.objs v.2 ob') := by
  have hv : v ∈ hs.objs.map keyOf := List.mem_map.2 ⟨_, hm, by unfold keyOf; rw [hk]⟩
  rw [putK_old keyOf (fun q => .int .i64 (numOf q.2)) _ _ _ (keys_nodup hG) hv]
  show _ = (setOb hs.objs v.2 ob').map fun q => (keyOf q, (.int .i64 (numOf q.2) : Value))
  unfold setOb
  rw [List.map_map]
  refine List.map_congr_left fun q hq => ?_
  simp only [Function.comp]
  by_cases e : q.1 = v.2
  · have : q.2 = ob := by
      have h1 := look_nodup hG.keys hm
      have h2 := look_nodup hG.keys (show (v.2, q.2) ∈ hs.objs by rw [← e]; exact hq)
      rw [h1] at h2; exact (Option.some.inj h2).symm
    have ek : keyOf q = v := by unfold keyOf; rw [this, hk, e]
    rw [if_pos ek, if_pos e, ek]
    congr 1
    unfold keyOf
    simp only [hk', e]
  · have ek : keyOf q ≠ v := fun h => e (congrArg Prod.snd h)
    rw [if_neg ek, if_neg e]
theorem want_del {hs : HS} (hG : HGood hs) (v : VV) (h : v ∈ hs.objs.map keyOf) : delK v (wantKV hs.objs) = wantKV (hs.objs.eraseP fun q => decide (q.1 = v.2)) := by
  rw [show wantKV hs.objs = hs.objs.map (fun q => (keyOf q, (.int .i64 (numOf q.2) : Value))) from rfl, delK_map keyOf]
  congr 1
  obtain ⟨q, hq, e⟩ := List.mem_map.1 h
  have key : ∀ l : List (Int × Ob), (l.map (·.1)).Nodup → q ∈ l → l.eraseP (fun q => decide (keyOf q = v)) = l.eraseP fun q => decide (q.1 = v.2) := by
    intro l
    induction l with
    | nil => intro _ h; cases h
    | cons p l ih =>
      intro hn hm
      simp only [List.map_cons, List.nodup_cons] at hn
      by_cases e2 : p.1 = v.2
      · have : p = q := by
          rcases List.mem_cons.1 hm with h | h
          · exact h.symm
          · have e3 : q.1 = v.2 := congrArg Prod.snd e
            exact absurd (List.mem_map.2 ⟨q, h, e3.trans e2.symm⟩) hn.1
        rw [List.eraseP_cons_of_pos (by simp [this, e]), List.eraseP_cons_of_pos (by simp [e2])]
      · have e4 : keyOf p ≠ v := fun h => e2 (congrArg Prod.snd h)
        rw [List.eraseP_cons_of_neg (by simp [e4]), List.eraseP_cons_of_neg (by simp [e2])]
        congr 1
        refine ih hn.2 ?_
        rcases List.mem_cons.1 hm with h | h
        · subst h
          exact absurd (congrArg Prod.snd e) e2
        · exact h
  exact key _ hG.keys hq
theorem want_same {l : List (Int × Ob)} {v : VV} (h : v ∉ l.map keyOf) : delK v (wantKV l) = wantKV l := by
  rw [show wantKV l = l.map (fun q => (keyOf q, (.int .i64 (numOf q.2) : Value))) from rfl, delK_map keyOf]
  congr 1
  refine List.eraseP_of_forall_not fun q hq => ?_
  have : keyOf q ≠ v := fun e => h (List.mem_map.2 ⟨q, hq, e⟩)
  simp [this]
end Go.Proofs.Ythnlkahgmbadoaa
