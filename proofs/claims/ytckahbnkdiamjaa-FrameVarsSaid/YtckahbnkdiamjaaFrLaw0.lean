/- Frame: the law's list of made functions; its append. -/
import Derived.Test.YtckahbnkdiamjaaFrBoth
import Derived.Test.YtckahbnkdiamjaaHmGood
import Derived.Test.YtckahbnkdiamjaaAmGuestV
namespace Go.Proofs.Ytckahbnkdiamjaa
open Go.RowKit
set_option linter.unusedSimpArgs false
set_option linter.unusedVariables false
set_option maxRecDepth 100000

/-- what the law notes of a made function -/
structure Md where
  fn : VV
  slot : Int
  num : Int
  old : Bool
def mdCell (d : Md) : List Value := [.int .u8 d.fn.1, .int .i64 d.fn.2, .int .i64 d.slot, .int .i64 d.num, .bool d.old]
def mdCells (l : List Md) : List Value := l.flatMap mdCell
theorem md_len (l : List Md) : (mdCells l).length = l.length * 5 := by
  induction l with
  | nil => rfl
  | cons d l ih =>
    have : mdCells (d :: l) = mdCell d ++ mdCells l := rfl
    rw [this, List.length_append, ih]
    simp only [mdCell, List.length_cons, List.length_nil]
    omega
theorem md_snoc (l : List Md) (d : Md) : mdCells (l ++ [d]) = mdCells l ++ mdCell d := by
  simp only [mdCells, List.flatMap_append, List.flatMap_cons, List.flatMap_nil, List.append_nil]
theorem build_md : ∀ (a b s n : Int) (c : Bool) fid H, buildSliceV Try.prog 60 1 [(0, .agg #[.int .u8 a, .int .i64 b, .int .i64 s, .int .i64 n, .bool c])] fid H = some (.slice (some ⟨fid, 0, none⟩) 1 2, newRowA fid [.int .u8 a, .int .i64 b, .int .i64 s, .int .i64 n, .bool c] 65 5 H) := fun a b s n c fid H => by kernel_rfl
theorem app_md : appOf Try.prog 60 60 = some (65, 5, 40) := by kernel_rfl
theorem mapp_nil (d : Md) : ∀ (o : Tr AObj) (nx : Nat) (lg : List Nat) (fid q : Nat), o.get q = some (.row (mdCell d) 65 5 true) →
    aAppend Try.prog 60 60 (.slice none 0 0) (.slice (some ⟨q, 0, none⟩) 1 2) fid ⟨o, nx, lg⟩ = some (.slice (some ⟨fid, 0, none⟩) 1 0, ⟨o.put fid (some (.row (mdCells [d]) 65 5 true)), nx, lg⟩) := by
  intro o nx lg fid q hq
  have hadd : addCells 5 (.slice (some ⟨q, 0, none⟩) 1 2) ⟨o, nx, lg⟩ = some (0 + 1, mdCell d) := by
    simp only [addCells, qH, hq]; rfl
  rw [app_none app_md hadd rfl]; rfl
theorem mapp_row (d : Md) {l : List Md} {k : Nat} (hk : l.length = k) (hl : k < 1000) : ∀ (o : Tr AObj) (nx : Nat) (lg : List Nat) (fid q j : Nat), o.get q = some (.row (mdCell d) 65 5 true) → o.get j = some (.row (mdCells l) 65 5 true) →
    aAppend Try.prog 60 60 (.slice (some ⟨j, 0, none⟩) k 0) (.slice (some ⟨q, 0, none⟩) 1 2) fid ⟨o, nx, lg⟩ = some (.slice (some ⟨fid, 0, none⟩) (k + 1) 0, ⟨(o.put j none).put fid (some (.row (mdCells (l ++ [d])) 65 5 true)), nx, noteId j lg⟩) := by
  intro o nx lg fid q j hq hj
  have hadd : addCells 5 (.slice (some ⟨q, 0, none⟩) 1 2) ⟨o, nx, lg⟩ = some (0 + 1, mdCell d) := by
    simp only [addCells, qH, hq]; rfl
  have hr : roomOk (k + (0 + 1)) 40 = true := by unfold roomOk; rw [Bool.and_eq_true, Nat.ble_eq, Nat.ble_eq]; omega
  rw [app_row app_md hadd hj (show cut (mdCells l) 0 (k * 5) = some (mdCells l) from cut_in (by rw [md_len]; omega) [] [] rfl (by simp)) hr rfl, md_snoc]; rfl
theorem build_up : ∀ (k : Int) fid H, buildSliceV Try.prog 68 1 [(0, .agg #[.bool true, .int .i64 k])] fid H = some (.slice (some ⟨fid, 0, none⟩) 1 2, newRowA fid [.bool true, .int .i64 k] 67 2 H) := fun k fid H => by kernel_rfl
/-- the inner function's ups are turned -/
theorem ProgIn.turn {o o' : Tr AObj} {nx nx' kp kb ks : Nat} {bx : List Bool} {ups ups' : Value} (h : ProgIn o nx kp kb ks bx ups) (hn : nx ≤ nx') (h1 : o'.get kp = some (.row [.int .i64 0, .bool false, .int .i64 5, .slice (some ⟨kb, 0, none⟩) 5 0, .slice none 0 0, .slice (some ⟨ks, 0, none⟩) 1 2, .slice none 0 0, .int .i64 0, .int .i64 0, .bool false, .int .i64 0, .slice none 0 0, ups', .slice (some ⟨ks, 0, none⟩) 1 2, .slice none 0 0, .int .i64 0] 73 8 true)) (h2 : o'.get kb = o.get kb) : ProgIn o' nx' kp kb ks bx ups' := by
  have a := h.ltp; have b := h.ltb; have c := h.lts
  exact ⟨by omega, by omega, by omega, h.len, h1, by rw [h2]; exact h.bxr⟩
end Go.Proofs.Ytckahbnkdiamjaa

namespace Go.Proofs.Ytckahbnkdiamjaa
open Go.RowKit
set_option linter.unusedSimpArgs false
set_option linter.unusedVariables false

structure Room (hs : HS) (i : Int) : Prop where
  max : hs.max = 100000
  used : hs.pool.used ≤ 4 + 3 * i
  count : hs.pool.count ≤ 2 + i
  made : hs.made ≤ 1 + i
  sizes : (hs.pool.sizes.length : Int) ≤ 2 + i
theorem Room.up {hs : HS} {i : Int} (h : Room hs i) : Room hs (i + 1) := by
  have := h.used; have := h.count; have := h.made; have := h.sizes
  exact ⟨h.max, by omega, by omega, by omega, by omega⟩
theorem takeP_le {hs : HS} (hG : HGood hs) {size : Int} (h0 : 0 ≤ size) (hroom : ¬ hs.max < hs.pool.used + size) (hc : hs.pool.count < 65536) : (takeP hs.pool size).1.used = hs.pool.used + size ∧ (takeP hs.pool size).1.sizes.length ≤ hs.pool.sizes.length + 1 := by
  have hcnt := hG.pool.cnt
  have hb := hG.bound
  unfold takeP
  rw [if_neg (by omega), if_neg (fun h => h.elim (fun h => by omega) (fun h => by omega))]
  by_cases h4 : hs.pool.free.length = 0
  · rw [if_pos h4]
    exact ⟨rfl, by simp⟩
  · rw [if_neg h4]
    exact ⟨rfl, by simp⟩
/-- all that add does where there is room -/
theorem add_all {hs : HS} {i : Int} (hG : HGood hs) (hR : Room hs i) (hi : i ≤ 1000) (ob : Ob) {size : Int} (h0 : 0 ≤ size) (h3 : size ≤ 3) (hk : holdsK ob.kind = true) :
    (addO hs ob size).2.2 = 0 ∧ HGood (addO hs ob size).1 ∧ Room (addO hs ob size).1 (i + 1) ∧ (addO hs ob size).2.1.1 = ob.kind ∧ 1 ≤ (addO hs ob size).2.1.2 ∧ lookO hs.objs (addO hs ob size).2.1.2 = none ∧
      (findO (addO hs ob size).1 (addO hs ob size).2.1 = some { ob with serial := if serialK ob.kind = true then hs.made + 1 else ob.serial }) ∧ ∀ v x, findO hs v = some x → findO (addO hs ob size).1 v = some x := by
  have r1 := hR.max; have r2 := hR.used; have r3 := hR.count; have r4 := hR.made; have r5 := hR.sizes
  have hroom : ¬ hs.max < hs.pool.used + size := by omega
  have hc : hs.pool.count < 65536 := by omega
  obtain ⟨t1, t2, t3⟩ := take_new hG h0 hroom hc
  obtain ⟨u1, u2⟩ := takeP_le hG h0 hroom hc
  obtain ⟨_, v2, _⟩ := takeP_has hG h0 hroom hc
  refine ⟨?_, hG.add ob h0 hc, ?_, ?_, ?_, ?_, find_add_new hG ob h0 hroom hc hk, fun v x hv => find_add_old ob size hv⟩
  · unfold addO; rw [if_neg hroom]
  · unfold addO; rw [if_neg hroom]
    refine ⟨r1, ?_, ?_, ?_, ?_⟩
    · simp only [u1]; omega
    · simp only [v2]; omega
    · simp only; split <;> omega
    · simp only; omega
  · unfold addO; rw [if_neg hroom]
  · unfold addO; rw [if_neg hroom]; exact t3
  · unfold addO; rw [if_neg hroom]; exact new_key hG t2
/-- a cell that holds a number -/
def CellHas (hs : HS) (c : VV) (x : Int) : Prop := c.1 = 9 ∧ ∃ ob, findO hs c = some ob ∧ ob.has = (3, x)
theorem CellHas.load {hs : HS} {c : VV} {x : Int} (h : CellHas hs c x) : loadO hs c = (3, x) := by
  obtain ⟨h1, ob, h2, h3⟩ := h
  unfold loadO ofO
  rw [if_pos h1, h2]; exact h3
theorem CellHas.keep {hs hs' : HS} {c : VV} {x : Int} (h : CellHas hs c x) (hk : ∀ v x, findO hs v = some x → findO hs' v = some x) : CellHas hs' c x := by
  obtain ⟨h1, ob, h2, h3⟩ := h
  exact ⟨h1, ob, hk _ _ h2, h3⟩
theorem CellHas.key {hs : HS} {c : VV} {x : Int} (h : CellHas hs c x) : lookO hs.objs c.2 ≠ none := by
  obtain ⟨h1, ob, h2, h3⟩ := h
  intro e
  unfold findO at h2
  rw [e] at h2
  split at h2 <;> cases h2
theorem cells_keep {hs hs' : HS} {f c : VV} (h : cellsO hs f = [c]) (hk : ∀ ob, findO hs f = some ob → ∃ ob', findO hs' f = some ob' ∧ ob'.cells = ob.cells) : cellsO hs' f = [c] := by
  unfold cellsO ofO at h ⊢
  by_cases h6 : f.1 = 6
  · rw [if_pos h6] at h ⊢
    cases e : findO hs f with
    | none => rw [e] at h; cases h
    | some ob =>
      rw [e] at h
      obtain ⟨ob', h1, h2⟩ := hk ob e
      rw [h1]
      simp only at h ⊢
      rw [h2]; exact h
  · rw [if_neg h6] at h; cases h
theorem getD_setI {α : Type} (l : List α) (k : Nat) (v d : α) (j : Nat) (hk : k < l.length) : (l.set k v).getD j d = if j = k then v else l.getD j d := by
  simp only [List.getD, List.getElem?_set]
  by_cases e : k = j
  · subst e; simp [hk]
  · rw [if_neg e, if_neg (fun h => e h.symm)]
def wantN (x : Int) : VV := if x = 0 then (0, 0) else (3, x)
structure MdOk (hs : HS) (bx : List Bool) (sv : List VV) (now : List Int) (m : Md) : Prop where
  kind : m.fn.1 = 6
  pos : 1 ≤ m.fn.2
  s0 : 0 ≤ m.slot
  s5 : m.slot < 5
  ex : ∃ c, cellsO hs m.fn = [c] ∧ CellHas hs c m.num ∧ (m.old = false → bx.getD m.slot.toNat false = true ∧ now.getD m.slot.toNat 0 ≠ 0 ∧ c = sv.getD m.slot.toNat (0, 0)) ∧
    (m.old = true → ∀ k, k < 5 → bx.getD k false = true → now.getD k 0 ≠ 0 → (sv.getD k (0, 0)).2 ≠ c.2)
structure VarF (hs : HS) (bx : List Bool) (sv : List VV) (now : List Int) (all : List Md) : Prop where
  good : HGood hs
  own : cellsO hs (6, 2) = [(9, 1)]
  lb : bx.length = 5
  ls : sv.length = 5
  ln : now.length = 5
  plain : ∀ k, k < 5 → bx.getD k false = false → sv.getD k (0, 0) = wantN (now.getD k 0)
  none : ∀ k, k < 5 → bx.getD k false = true → now.getD k 0 = 0 → sv.getD k (0, 0) = (0, 0)
  cell : ∀ k, k < 5 → bx.getD k false = true → now.getD k 0 ≠ 0 → CellHas hs (sv.getD k (0, 0)) (now.getD k 0)
  apart : ∀ j k, j < 5 → k < 5 → j ≠ k → bx.getD j false = true → bx.getD k false = true → now.getD j 0 ≠ 0 → now.getD k 0 ≠ 0 → (sv.getD j (0, 0)).2 ≠ (sv.getD k (0, 0)).2
  made : ∀ m ∈ all, MdOk hs bx sv now m
def setM (k n : Int) (m : Md) : Md := if m.slot = k ∧ m.old = false then { m with num := n } else m
def frM (k : Int) (m : Md) : Md := { m with old := m.old || decide (m.slot = k) }
theorem keep_num (hs : HS) (n : Int) : keepO hs (3, n) = true := by simp [keepO, holdsK]
theorem cellO_num (hs : HS) (n : Int) : cellO hs (3, n) = addO hs (cellOb (3, n)) 1 := by unfold cellO; rw [keep_num]; rfl
section
variable {hs : HS} {bx : List Bool} {sv : List VV} {now : List Int} {all : List Md} {i : Int}
/-- a new variable that is not boxed -/
theorem VarF.fresh0 (h : VarF hs bx sv now all) {k : Nat} (hk : k < 5) {n : Int} (hn : n ≠ 0) (hb : bx.getD k false = false) : VarF hs bx (sv.set k (3, n)) (now.set k n) (all.map (frM k)) := by
  have e1 := fun j => getD_setI sv k (3, n) (0, 0) j (by rw [h.ls]; exact hk)
  have e2 := fun j => getD_setI now k n 0 j (by rw [h.ln]; exact hk)
  have nb : ∀ j, bx.getD j false = true → ¬ j = k := fun j hj e => by rw [e, hb] at hj; cases hj
  refine ⟨h.good, h.own, h.lb, by rw [List.length_set]; exact h.ls, by rw [List.length_set]; exact h.ln, fun j hj hbj => ?_, fun j hj hbj => ?_, fun j hj hbj => ?_, fun j l hj hl hjl hbj hbl => ?_, fun m' hm' => ?_⟩
  · rw [e1, e2]
    by_cases e : j = k
    · rw [if_pos e, if_pos e]; unfold wantN; rw [if_neg hn]
    · rw [if_neg e, if_neg e]; exact h.plain j hj hbj
  · rw [e1, e2, if_neg (nb j hbj), if_neg (nb j hbj)]; exact h.none j hj hbj
  · rw [e1, e2, if_neg (nb j hbj), if_neg (nb j hbj)]; exact h.cell j hj hbj
  · rw [e1, e1, e2, e2, if_neg (nb j hbj), if_neg (nb j hbj), if_neg (nb l hbl), if_neg (nb l hbl)]; exact h.apart j l hj hl hjl hbj hbl
  · obtain ⟨m, hm, rfl⟩ := List.mem_map.1 hm'
    obtain ⟨m1, m2, m3, m4, c, m5, m6, m7, m8⟩ := h.made m hm
    refine ⟨m1, m2, m3, m4, c, m5, m6, fun ho => ?_, fun ho j hj hbj => ?_⟩
    · simp only [frM, Bool.or_eq_false_iff] at ho ⊢
      obtain ⟨a1, a2, a3⟩ := m7 ho.1
      rw [e1, e2, if_neg (nb _ a1), if_neg (nb _ a1)]
      exact ⟨a1, a2, a3⟩
    · rw [e1, e2, if_neg (nb j hbj), if_neg (nb j hbj)]
      simp only [frM, Bool.or_eq_true, decide_eq_true_eq] at ho
      cases hold : m.old with
      | true => exact m8 hold j hj hbj
      | false =>
        rw [hold] at ho
        have := (m7 hold).1
        have es : m.slot.toNat = k := by
          rcases ho with ho | ho
          · cases ho
          · omega
        rw [es, hb] at this
        cases this
/-- a new variable in a cell -/
theorem VarF.fresh1 (h : VarF hs bx sv now all) (hR : Room hs i) (hi : i ≤ 1000) {k : Nat} (hk : k < 5) {n : Int} (hn : n ≠ 0) (hb : bx.getD k false = true) :
    VarF (cellO hs (3, n)).1 bx (sv.set k (cellO hs (3, n)).2.1) (now.set k n) (all.map (frM k)) ∧ Room (cellO hs (3, n)).1 (i + 1) ∧ (cellO hs (3, n)).2.2 = 0 := by
  rw [cellO_num]
  obtain ⟨c1, c2, c3, c4, c5, c6, c7, c8⟩ := add_all h.good hR hi (cellOb (3, n)) (size := 1) (by decide) (by decide) (show holdsK 9 = true from by decide)
  have e1 := fun j => getD_setI sv k (addO hs (cellOb (3, n)) 1).2.1 (0, 0) j (by rw [h.ls]; exact hk)
  have e2 := fun j => getD_setI now k n 0 j (by rw [h.ln]; exact hk)
  have far : ∀ c x, CellHas hs c x → (addO hs (cellOb (3, n)) 1).2.1.2 ≠ c.2 := fun c x hc e => hc.key (by rw [← e]; exact c6)
  refine ⟨⟨c2, cells_keep h.own fun ob hob => ⟨ob, c8 _ _ hob, rfl⟩, h.lb, by rw [List.length_set]; exact h.ls, by rw [List.length_set]; exact h.ln, fun j hj hbj => ?_, fun j hj hbj => ?_, fun j hj hbj => ?_, fun j l hj hl hjl hbj hbl => ?_, fun m' hm' => ?_⟩, c3, c1⟩
  · have e : ¬ j = k := fun e => by rw [e, hb] at hbj; cases hbj
    rw [e1, e2, if_neg e, if_neg e]; exact h.plain j hj hbj
  · rw [e1, e2]
    by_cases e : j = k
    · rw [if_pos e]; intro h0; exact absurd h0 hn
    · rw [if_neg e, if_neg e]; exact h.none j hj hbj
  · rw [e1, e2]
    by_cases e : j = k
    · rw [if_pos e, if_pos e]; intro _; exact ⟨c4, _, c7, rfl⟩
    · rw [if_neg e, if_neg e]; intro h0; exact (h.cell j hj hbj h0).keep c8
  · rw [e1, e1, e2, e2]
    by_cases ej : j = k
    · have el : ¬ l = k := fun e => hjl (by omega)
      rw [if_pos ej, if_pos ej, if_neg el, if_neg el]
      intro _ h0; exact far _ _ (h.cell l hl hbl h0)
    · rw [if_neg ej, if_neg ej]
      by_cases el : l = k
      · rw [if_pos el, if_pos el]
        intro h0 _; exact Ne.symm (far _ _ (h.cell j hj hbj h0))
      · rw [if_neg el, if_neg el]; exact h.apart j l hj hl hjl hbj hbl
  · obtain ⟨m, hm, rfl⟩ := List.mem_map.1 hm'
    obtain ⟨m1, m2, m3, m4, c, m5, m6, m7, m8⟩ := h.made m hm
    refine ⟨m1, m2, m3, m4, c, cells_keep m5 fun ob hob => ⟨ob, c8 _ _ hob, rfl⟩, m6.keep c8, fun ho => ?_, fun ho j hj hbj => ?_⟩
    · simp only [frM, Bool.or_eq_false_iff, decide_eq_false_iff_not] at ho ⊢
      obtain ⟨a1, a2, a3⟩ := m7 ho.1
      have e : ¬ m.slot.toNat = k := fun e => ho.2 (by omega)
      rw [e1, e2, if_neg e, if_neg e]
      exact ⟨a1, a2, a3⟩
    · rw [e1, e2]
      by_cases e : j = k
      · rw [if_pos e, if_pos e]; intro _; exact far _ _ m6
      · rw [if_neg e, if_neg e]
        simp only [frM, Bool.or_eq_true, decide_eq_true_eq] at ho
        cases hold : m.old with
        | true => exact m8 hold j hj hbj
        | false =>
          rw [hold] at ho
          have hs : m.slot.toNat = k := by
            rcases ho with ho | ho
            · cases ho
            · omega
          obtain ⟨a1, a2, a3⟩ := m7 hold
          rw [hs] at a1 a2 a3
          rw [a3]
          intro h0
          exact h.apart j k hj hk e hbj a1 h0 a2
/-- nothing lives at a slot that is not there yet -/
theorem VarF.same (h : VarF hs bx sv now all) {k : Nat} (hno : bx.getD k false = false ∨ now.getD k 0 = 0) (n : Int) : all.map (setM k n) = all.map (frM k) := by
  refine List.map_congr_left fun m hm => ?_
  obtain ⟨m1, m2, m3, m4, c, m5, m6, m7, m8⟩ := h.made m hm
  unfold setM frM
  cases hold : m.old with
  | true => rw [if_neg (fun h => by cases h.2), Bool.true_or, ← hold]
  | false =>
    have : ¬ m.slot = k := fun e => by
      obtain ⟨a1, a2, a3⟩ := m7 hold
      rw [show m.slot.toNat = k from by omega] at a1 a2
      rcases hno with hno | hno
      · rw [hno] at a1; cases a1
      · exact a2 hno
    rw [if_neg (fun h => this h.1), Bool.false_or, decide_eq_false this, ← hold]
/-- something is put into a cell -/
theorem VarF.store (h : VarF hs bx sv now all) (hR : Room hs i) {k : Nat} (hk : k < 5) {n : Int} (hn : n ≠ 0) (hb : bx.getD k false = true) (h0 : now.getD k 0 ≠ 0) :
    VarF (storeO hs (sv.getD k (0, 0)) (3, n)).1 bx sv (now.set k n) (all.map (setM k n)) ∧ Room (storeO hs (sv.getD k (0, 0)) (3, n)).1 (i + 1) ∧ (storeO hs (sv.getD k (0, 0)) (3, n)).2 = 0 := by
  have e2 := fun j => getD_setI now k n 0 j (by rw [h.ln]; exact hk)
  have hc := h.cell k hk hb h0
  obtain ⟨q1, ob, q2, q3⟩ := hc
  have hok : (storeO hs (sv.getD k (0, 0)) (3, n)).2 = 0 := by unfold storeO ofO; rw [if_pos q1, q2]; simp only [keep_num, if_true]
  have hfind := fun q => find_store (hs := hs) (sv.getD k (0, 0)) (3, n) q
  simp only [hok, true_and] at hfind
  have hRoom : Room (storeO hs (sv.getD k (0, 0)) (3, n)).1 (i + 1) := by
    have := hR.up
    unfold storeO ofO
    rw [if_pos q1, q2]
    simp only [keep_num, if_true]
    exact ⟨this.max, this.used, this.count, this.made, this.sizes⟩
  have hself : CellHas (storeO hs (sv.getD k (0, 0)) (3, n)).1 (sv.getD k (0, 0)) n := ⟨q1, _, by rw [hfind, if_pos ⟨q1, rfl⟩, q2]; rfl, rfl⟩
  have hother : ∀ c x, CellHas hs c x → (sv.getD k (0, 0)).2 ≠ c.2 → CellHas (storeO hs (sv.getD k (0, 0)) (3, n)).1 c x := fun c x hc hne => by
    obtain ⟨d1, o1, d2, d3⟩ := hc
    exact ⟨d1, o1, by rw [hfind, if_neg (fun e => hne e.2.symm)]; exact d2, d3⟩
  have hself2 : ∀ c x, CellHas hs c x → (sv.getD k (0, 0)).2 = c.2 → CellHas (storeO hs (sv.getD k (0, 0)) (3, n)).1 c n := fun c x hc hne => by
    obtain ⟨d1, o1, d2, d3⟩ := hc
    exact ⟨d1, _, by rw [hfind, if_pos ⟨d1, hne.symm⟩, d2]; rfl, rfl⟩
  refine ⟨⟨h.good.store _ _, cells_keep h.own fun ob hob => ⟨ob, by rw [hfind, if_neg (fun e => absurd e.1 (by decide))]; exact hob, rfl⟩, h.lb, h.ls, by rw [List.length_set]; exact h.ln, fun j hj hbj => ?_, fun j hj hbj => ?_, fun j hj hbj => ?_, fun j l hj hl hjl hbj hbl => ?_, fun m' hm' => ?_⟩, hRoom, hok⟩
  · have e : ¬ j = k := fun e => by rw [e, hb] at hbj; cases hbj
    rw [e2, if_neg e]; exact h.plain j hj hbj
  · rw [e2]
    by_cases e : j = k
    · rw [if_pos e]; intro hx; exact absurd hx hn
    · rw [if_neg e]; exact h.none j hj hbj
  · rw [e2]
    by_cases e : j = k
    · rw [if_pos e, e]; intro _; exact hself
    · rw [if_neg e]; intro hx
      exact hother _ _ (h.cell j hj hbj hx) (h.apart k j hk hj (fun x => e x.symm) hb hbj h0 hx)
  · rw [e2, e2]
    intro a1 a2
    refine h.apart j l hj hl hjl hbj hbl ?_ ?_
    · by_cases e : j = k
      · rw [e]; exact h0
      · rw [if_neg e] at a1; exact a1
    · by_cases e : l = k
      · rw [e]; exact h0
      · rw [if_neg e] at a2; exact a2
  · obtain ⟨m, hm, rfl⟩ := List.mem_map.1 hm'
    obtain ⟨m1, m2, m3, m4, c, m5, m6, m7, m8⟩ := h.made m hm
    have hcs : ∀ c, cellsO hs m.fn = [c] → cellsO (storeO hs (sv.getD k (0, 0)) (3, n)).1 m.fn = [c] := fun c hcc => cells_keep hcc fun ob hob => ⟨ob, by rw [hfind, if_neg (fun e => by rw [m1] at e; exact absurd e.1 (by decide))]; exact hob, rfl⟩
    unfold setM
    by_cases hit : m.slot = k ∧ m.old = false
    · rw [if_pos hit]
      obtain ⟨a1, a2, a3⟩ := m7 hit.2
      have es : m.slot.toNat = k := by omega
      refine ⟨m1, m2, m3, m4, c, hcs c m5, ?_, fun _ => ?_, fun ho => ?_⟩
      · rw [a3, es]; exact hself
      · simp only [es, e2, if_true]
        rw [es] at a1 a3
        exact ⟨a1, hn, a3⟩
      · simp only at ho; rw [hit.2] at ho; cases ho
    · rw [if_neg hit]
      cases hold : m.old with
      | false =>
        obtain ⟨a1, a2, a3⟩ := m7 hold
        have e : ¬ m.slot.toNat = k := fun e => hit ⟨by omega, hold⟩
        refine ⟨m1, m2, m3, m4, c, hcs c m5, hother _ _ m6 (by rw [a3]; exact h.apart k _ hk (by omega) (fun x => e x.symm) hb a1 h0 a2), fun _ => ?_, fun ho => by rw [hold] at ho; cases ho⟩
        rw [e2, if_neg e]; exact ⟨a1, a2, a3⟩
      | true =>
        refine ⟨m1, m2, m3, m4, c, hcs c m5, hother _ _ m6 (m8 hold k hk hb h0), fun ho => (by rw [hold] at ho; cases ho), fun _ j hj hbj => ?_⟩
        rw [e2]
        intro hx
        refine m8 hold j hj hbj ?_
        by_cases e : j = k
        · rw [e]; exact h0
        · rw [if_neg e] at hx; exact hx
theorem VarF.is9 (h : VarF hs bx sv now all) {k : Nat} (hk : k < 5) : (sv.getD k (0, 0)).1 = 9 ↔ bx.getD k false = true ∧ now.getD k 0 ≠ 0 := by
  cases hb : bx.getD k false with
  | false =>
    rw [h.plain k hk hb]
    unfold wantN
    by_cases h0 : now.getD k 0 = 0
    · rw [if_pos h0]; exact ⟨fun e => absurd e (by decide), fun e => absurd e.1 (by decide)⟩
    · rw [if_neg h0]; exact ⟨fun e => absurd e (show ¬ (3 : Int) = 9 from by decide), fun e => absurd e.1 (by decide)⟩
  | true =>
    by_cases h0 : now.getD k 0 = 0
    · rw [h.none k hk hb h0]; exact ⟨fun e => absurd e (by decide), fun e => absurd h0 e.2⟩
    · exact ⟨fun _ => ⟨rfl, h0⟩, fun _ => (h.cell k hk hb h0).1⟩
/-- a function is made -/
theorem VarF.make (h : VarF hs bx sv now all) (hR : Room hs i) (hi : i ≤ 1000) {k : Nat} (hk : k < 5) (hb : bx.getD k false = true) (h0 : now.getD k 0 ≠ 0) :
    VarF (makeF hs (sv.getD k (0, 0))).1 bx sv now (all ++ [⟨(makeF hs (sv.getD k (0, 0))).2.1, k, now.getD k 0, false⟩]) ∧ Room (makeF hs (sv.getD k (0, 0))).1 (i + 1) ∧ (makeF hs (sv.getD k (0, 0))).2.2 = 0 := by
  have hc := h.cell k hk hb h0
  obtain ⟨q1, ob, q2, q3⟩ := hc
  have hbad : badB hs (sv.getD k (0, 0)) = false := by unfold badB ofO; rw [if_pos q1, q2]; rfl
  have hm : makeF hs (sv.getD k (0, 0)) = addO hs (funcOb 1 [sv.getD k (0, 0)]) 3 := by
    unfold makeF
    rw [if_pos ⟨q1, by rw [q2]; rfl⟩]
    unfold funcO
    have hno : ¬ ((1 : Int) < 0 ∨ 60 < [sv.getD k (0, 0)].length ∨ [sv.getD k (0, 0)].any (badB hs) = true) := by
      rintro (hx | hx | hx)
      · exact absurd hx (by decide)
      · simp at hx
      · rw [List.any_cons, hbad] at hx; cases hx
    rw [if_neg hno]; rfl
  rw [hm]
  obtain ⟨c1, c2, c3, c4, c5, c6, c7, c8⟩ := add_all h.good hR hi (funcOb 1 [sv.getD k (0, 0)]) (size := 3) (by decide) (by decide) (show holdsK 6 = true from by decide)
  refine ⟨⟨c2, cells_keep h.own fun ob hob => ⟨ob, c8 _ _ hob, rfl⟩, h.lb, h.ls, h.ln, h.plain, h.none, fun j hj hbj hx => (h.cell j hj hbj hx).keep c8, h.apart, fun m hm => ?_⟩, c3, c1⟩
  rcases List.mem_append.1 hm with hm | hm
  · obtain ⟨m1, m2, m3, m4, c, m5, m6, m7, m8⟩ := h.made m hm
    exact ⟨m1, m2, m3, m4, c, cells_keep m5 fun ob hob => ⟨ob, c8 _ _ hob, rfl⟩, m6.keep c8, m7, m8⟩
  · simp only [List.mem_singleton] at hm
    subst hm
    refine ⟨c4, c5, by simp, by simp only; omega, sv.getD k (0, 0), ?_, (h.cell k hk hb h0).keep c8, fun _ => ?_, fun ho => by cases ho⟩
    · simp only
      unfold cellsO ofO
      rw [if_pos (show (addO hs (funcOb 1 [sv.getD k (0, 0)]) 3).2.1.1 = 6 from c4), c7]; rfl
    · simp only [Int.toNat_natCast]; exact ⟨hb, h0, trivial⟩
theorem VarF.nomake (h : VarF hs bx sv now all) {k : Nat} (hk : k < 5) (hno : ¬ (bx.getD k false = true ∧ now.getD k 0 ≠ 0)) : makeF hs (sv.getD k (0, 0)) = (hs, (0, 0), 154) := by
  unfold makeF
  rw [if_neg]
  intro hx
  exact hno ((h.is9 hk).1 hx.1)
/-- what Get tells -/
theorem VarF.get (h : VarF hs bx sv now all) {k : Nat} (hk : k < 5) : getF hs (bx.getD k false) (sv.getD k (0, 0)) = wantN (now.getD k 0) := by
  unfold getF
  cases hb : bx.getD k false with
  | false =>
    have h9 : ¬ (sv.getD k (0, 0)).1 = 9 := fun e => by have := ((h.is9 hk).1 e).1; rw [hb] at this; cases this
    rw [decide_eq_false h9, if_pos rfl]
    simp only [Bool.false_eq_true, if_false]
    exact h.plain k hk hb
  | true =>
    by_cases h0 : now.getD k 0 = 0
    · rw [h.none k hk hb h0, h0]; rfl
    · have hc := h.cell k hk hb h0
      rw [decide_eq_true hc.1, if_pos rfl, if_pos rfl, hc.load]
      unfold wantN
      rw [if_neg h0]
/-- what Up tells -/
theorem VarF.up (h : VarF hs bx sv now all) {m : Md} (hm : m ∈ all) : loadO hs (cellF hs m.fn.2 0).1 = (3, m.num) ∧ (cellsO hs (6, m.fn.2)).length ≤ 1000000 := by
  obtain ⟨m1, m2, m3, m4, c, m5, m6, m7, m8⟩ := h.made m hm
  have e : ((6 : Int), m.fn.2) = m.fn := by rw [← m1]
  unfold cellF
  rw [e, m5]
  obtain ⟨d1, ob, d2, d3⟩ := id m6
  rw [if_neg]
  · exact ⟨m6.load, by simp⟩
  · simp [d2]; omega
end
end Go.Proofs.Ytckahbnkdiamjaa

namespace Go.Proofs.Ytckahbnkdiamjaa
open Go.RowKit
set_option linter.unusedSimpArgs false
set_option linter.unusedVariables false
set_option maxRecDepth 100000

/-! ### which part of the code -/
def sqL : Code → Code
  | .seq a _ => a
  | c => c
def sqR : Code → Code
  | .seq _ b => b
  | c => c
def blkIn : Code → Code
  | .block _ b => b
  | c => c
def lpIn : Code → Code
  | .loop b => b
  | c => c
def cdT : Code → Code
  | .cond _ a _ => a
  | c => c
def cdF : Code → Code
  | .cond _ _ b => b
  | c => c
def bodyOf (f : Func) : Code := match f.body with
  | some c => c
  | none => .skip
def frW (f : Func) : Code := sqR (sqR (sqR (sqR (sqR (sqR (sqR (sqR (sqR (bodyOf f)))))))))
def frRB (f : Func) : Code := blkIn (sqL (sqR (lpIn (blkIn (sqR (sqL (frW f)))))))
def frSW (f : Func) : Code := sqR (blkIn (sqL (sqR (sqR (frRB f)))))
def frC1 (f : Func) : Code := cdT (frSW f)
def frC2 (f : Func) : Code := cdT (sqR (cdF (frSW f)))
def frC3 (f : Func) : Code := cdF (sqR (cdF (frSW f)))
def frTail (f : Func) : Code := sqR (sqR (sqR (frRB f)))

/-! ### the made ones in their row -/
theorem md_at (a : List Md) (m : Md) (b : List Md) {j : Nat} (hj : a.length = j) (q : Nat) (hq : q < 5) : (mdCells (a ++ m :: b))[j * 5 + q]? = (mdCell m)[q]? := by
  have e : mdCells (a ++ m :: b) = mdCells a ++ (mdCell m ++ mdCells b) := by simp only [mdCells, List.flatMap_append, List.flatMap_cons]
  rw [e, List.getElem?_append_right (by rw [md_len]; omega), md_len, hj, show j * 5 + q - j * 5 = q from by omega, List.getElem?_append_left (by simp [mdCell]; omega)]
theorem md_cut (a : List Md) (m : Md) (b : List Md) {j : Nat} (hj : a.length = j) : cut (mdCells (a ++ m :: b)) (j * 5) 5 = some (mdCell m) := by
  refine cut_in (by simp [mdCell]) (mdCells a) (mdCells b) ?_ ?_
  · have := md_len a; rw [hj] at this; exact this
  · simp only [mdCells, List.flatMap_append, List.flatMap_cons, List.append_assoc]
theorem md_put (a : List Md) (m : Md) (b : List Md) {j : Nat} (hj : a.length = j) (q : Nat) (hq : q < 5) (v : Value) (m' : Md) (hm : (mdCell m).set q v = mdCell m') : (mdCells (a ++ m :: b)).set (j * 5 + q) v = mdCells (a ++ m' :: b) := by
  have e : ∀ x, mdCells (a ++ x :: b) = mdCells a ++ (mdCell x ++ mdCells b) := fun x => by simp only [mdCells, List.flatMap_append, List.flatMap_cons]
  rw [e, e, List.set_append_right _ _ (by rw [md_len]; omega), md_len, hj, show j * 5 + q - j * 5 = q from by omega, List.set_append_left _ _ (by simp [mdCell]; omega), hm]
/-! ### the numbers that the law is handed -/
theorem in_cells3 (zs : List (List Int)) (h : ∀ z ∈ zs, z.length = 3) {i : Nat} (hi : i < zs.length) : ∃ a b c : Int, ∀ q v, [Value.int .i64 a, .int .i64 b, .int .i64 c][q]? = some v → (intCells [.i64, .i64, .i64] zs)[i * 3 + q]? = some v := by
  induction zs generalizing i with
  | nil => simp at hi
  | cons z zs ih =>
    have hz := h z (by simp)
    have e : ∃ a b c, z = [a, b, c] := by
      rcases z with _ | ⟨a, _ | ⟨b, _ | ⟨c, _ | ⟨d, t⟩⟩⟩⟩ <;> simp at hz
      exact ⟨a, b, c, rfl⟩
    obtain ⟨a, b, c, rfl⟩ := e
    have e2 : intCells [.i64, .i64, .i64] ([a, b, c] :: zs) = [Value.int .i64 a, .int .i64 b, .int .i64 c] ++ intCells [.i64, .i64, .i64] zs := by simp only [intCells, List.flatMap_cons]; rfl
    cases i with
    | zero =>
      refine ⟨a, b, c, fun q v hq => ?_⟩
      rw [e2, Nat.zero_mul, Nat.zero_add, List.getElem?_append_left]
      · exact hq
      · exact (List.getElem?_eq_some_iff.1 hq).1
    | succ i =>
      obtain ⟨a', b', c', h2⟩ := ih (fun z hz => h z (by simp [hz])) (i := i) (by simp at hi; omega)
      refine ⟨a', b', c', fun q v hq => ?_⟩
      rw [e2, List.getElem?_append_right (by simp; omega)]
      simp only [List.length_cons, List.length_nil]
      rw [show (i + 1) * 3 + q - (0 + 1 + 1 + 1) = i * 3 + q from by omega]
      exact h2 q v hq
/-! ### the state -/
/-- where the law's own things lie -/
structure LB where
  hi : Nat
  kp : Nat
  kb : Nat
  ks : Nat
  kf : Nat
  kn : Nat
  kt : Nat
def MdsIn (o : Tr AObj) (nx : Nat) (w : Nat → Nat) (L : LB) (sa : Nat) (av : Value) (all : List Md) : Prop :=
  (av = .slice none 0 0 ∧ all = []) ∨ ∃ j, av = .slice (some ⟨j, 0, none⟩) all.length 0 ∧ j < nx ∧ w j = 0 ∧ (j ≠ 1 ∧ j ≠ L.kp ∧ j ≠ L.kb ∧ j ≠ L.kf ∧ j ≠ L.kn ∧ j ≠ L.kt ∧ j ≠ sa) ∧ o.get j = some (.row (mdCells all) 65 5 true)
theorem MdsIn.slice {o : Tr AObj} {nx : Nat} {w : Nat → Nat} {L : LB} {sa : Nat} {av : Value} {all : List Md} (h : MdsIn o nx w L sa av all) : ∃ jsl, av = .slice (slA jsl) all.length 0 := by
  rcases h with ⟨rfl, rfl⟩ | ⟨j, rfl, _⟩
  · exact ⟨none, rfl⟩
  · exact ⟨some j, rfl⟩
theorem MdsIn.at {o : Tr AObj} {nx : Nat} {w : Nat → Nat} {L : LB} {sa : Nat} {av : Value} {all : List Md} (h : MdsIn o nx w L sa av all) (hl : all ≠ []) : ∃ j, av = .slice (some ⟨j, 0, none⟩) all.length 0 ∧ j < nx ∧ w j = 0 ∧ (j ≠ 1 ∧ j ≠ L.kp ∧ j ≠ L.kb ∧ j ≠ L.kf ∧ j ≠ L.kn ∧ j ≠ L.kt ∧ j ≠ sa) ∧ o.get j = some (.row (mdCells all) 65 5 true) := by
  rcases h with ⟨_, h⟩ | h
  · exact absurd h hl
  · exact h
/-- marks -/
structure Mks (w : Nat → Nat) (L : LB) (sa : Nat) : Prop where
  zero : w 1 = 0 ∧ w L.kp = 0 ∧ w L.kb = 0 ∧ w L.kf = 0 ∧ w L.kn = 0 ∧ w L.kt = 0 ∧ w sa = 0
  d1 : L.kp ≠ 1 ∧ L.kb ≠ 1 ∧ L.kf ≠ 1 ∧ L.kn ≠ 1 ∧ L.kt ≠ 1 ∧ sa ≠ 1
  d2 : L.kp ≠ L.kb ∧ L.kp ≠ L.kf ∧ L.kp ≠ L.kn ∧ L.kp ≠ L.kt ∧ L.kp ≠ sa
  d3 : L.kb ≠ L.kf ∧ L.kb ≠ L.kn ∧ L.kb ≠ L.kt ∧ L.kb ≠ sa
  d4 : L.kf ≠ L.kn ∧ L.kf ≠ L.kt ∧ L.kf ≠ sa
  d5 : L.kn ≠ L.kt ∧ L.kn ≠ sa ∧ L.kt ≠ sa
structure LawIn (z : List Value) (bx : List Bool) (L : LB) (o : Tr AObj) (nx : Nat) (w : Nat → Nat) (B : HB) (hs : HS) (sa c : Nat) (sv : List VV) (now : List Int) (av : Value) (all : List Md) (ups : Value) : Prop where
  heap : HeapIn o nx w B hs
  hB : B.i = L.hi
  prog : ProgIn o nx L.kp L.kb L.ks bx ups
  fr : FrIn o nx L.kf 2 sa c sv
  mks : Mks w L sa
  guest : o.get 1 = some (.row z 0 1 false)
  ltg : 1 < nx
  ltn : L.kn < nx
  ltt : L.kt < nx
  now : o.get L.kn = some (.row (now.map (Value.int .i64)) 59 0 true)
  prg : o.get L.kt = some (.row [.slice none 0 0, .slice (some ⟨L.kp, 0, none⟩) 2 3] 33 0 true)
  mds : MdsIn o nx w L sa av all
theorem MdsIn.keep {o o' : Tr AObj} {nx nx' : Nat} {w w' : Nat → Nat} {L : LB} {sa sa' : Nat} {av : Value} {all : List Md} (h : MdsIn o nx w L sa av all) (hn : nx ≤ nx') (hs : sa' = sa ∨ nx ≤ sa') (hk : ∀ j, j < nx → w j = 0 → (j ≠ 1 ∧ j ≠ L.kp ∧ j ≠ L.kb ∧ j ≠ L.kf ∧ j ≠ L.kn ∧ j ≠ L.kt ∧ j ≠ sa) → o'.get j = o.get j ∧ w' j = 0) : MdsIn o' nx' w' L sa' av all := by
  rcases h with h | ⟨j, h1, h2, h3, h4, h5⟩
  · exact .inl h
  · have := hk j h2 h3 h4
    exact .inr ⟨j, h1, by omega, this.2, by omega, this.1.trans h5⟩
/-- new things beside it -/
theorem LawIn.more {z : List Value} {bx : List Bool} {L : LB} {o o' : Tr AObj} {nx nx' : Nat} {w : Nat → Nat} {B : HB} {hs : HS} {sa c : Nat} {sv : List VV} {now : List Int} {av : Value} {all : List Md} {ups : Value} (h : LawIn z bx L o nx w B hs sa c sv now av all ups) (hn : nx ≤ nx') (hk : ∀ x, x < nx → o'.get x = o.get x) : LawIn z bx L o' nx' w B hs sa c sv now av all ups := by
  have a1 := h.ltg; have a2 := h.ltn; have a3 := h.ltt
  exact ⟨h.heap.more hn hk, h.hB, h.prog.more hn hk, h.fr.more hn hk, h.mks, (hk 1 a1).trans h.guest, by omega, by omega, by omega, (hk _ a2).trans h.now, (hk _ a3).trans h.prg, h.mds.keep hn (.inl rfl) fun j hj hw _ => ⟨hk j hj, hw⟩⟩
/-- the law's variables -/
structure LEnv (L : LB) (oa : Option Addr) (len : Nat) (av : Value) (i : Nat) (e : Tr Value) : Prop where
  g1 : e.get 1 = some (.slice oa len 0)
  g5 : e.get 5 = some (.pointer (some ⟨L.hi, 0, none⟩))
  g10 : e.get 10 = some (.pointer (some ⟨L.kt, 0, none⟩))
  g11 : e.get 11 = some (.pointer (some ⟨L.kf, 0, none⟩))
  g13 : e.get 13 = some (.pointer (some ⟨L.kn, 0, none⟩))
  g14 : e.get 14 = some av
  g15 : e.get 15 = some (.int .i64 (.ofNat i))
/-- all of it: i rounds are behind, r of them and this one have turned something -/
def LawSt (z : List Value) (bx : List Bool) (L : LB) (oa : Option Addr) (len : Nat) (i r : Nat) (e : Tr Value) (H : AHeap) : Prop :=
  ∃ o nx lg w B hs sa c sv now av all ups, H = ⟨o, nx, lg⟩ ∧ LawIn z bx L o nx w B hs sa c sv now av all ups ∧ VarF hs bx sv now all ∧ Room hs r ∧ all.length ≤ r ∧ (∀ k, k < 5 → now.getD k 0 ≤ r) ∧ LEnv L oa len av i e
/-- what a call that turns the frame and the heap leaves -/
def ActTo (bx : List Bool) (L : LB) (o : Tr AObj) (nx : Nat) (w : Nat → Nat) (sa : Nat) (now' : List Int) (all' : List Md) (i : Nat) (r : Value × AHeap) : Prop :=
  ∃ o2 nx2 l2 w2 B2 hs2 sa2 c2 sv2, r = (.int .i64 0, ⟨o2, nx2, l2⟩) ∧ nx ≤ nx2 ∧ HeapIn o2 nx2 w2 B2 hs2 ∧ B2.i = L.hi ∧ FrIn o2 nx2 L.kf 2 sa2 c2 sv2 ∧ (sa2 = sa ∨ nx ≤ sa2) ∧ w2 sa2 = 0 ∧ (∀ x, x < nx → w x = 0 → w2 x = 0 ∧ (x ≠ L.kf → o2.get x = o.get x)) ∧ (∃ x, x ∈ l2) ∧ VarF hs2 bx sv2 now' all' ∧ Room hs2 ((i + 1 : Nat) : Int)
section
variable {z : List Value} {bx : List Bool} {L : LB} {o : Tr AObj} {nx : Nat} {w : Nat → Nat} {B : HB} {hs : HS} {sa c : Nat} {sv : List VV} {now : List Int} {av : Value} {all : List Md} {ups : Value}
theorem Mks.turn (h : Mks w L sa) {w2 : Nat → Nat} {sa2 : Nat} (hw : ∀ x, x < nx → w x = 0 → w2 x = 0) (h1 : 1 < nx) (hp : L.kp < nx) (hb : L.kb < nx) (hf : L.kf < nx) (hn : L.kn < nx) (ht : L.kt < nx) (hs : sa2 = sa ∨ nx ≤ sa2) (hw2 : w2 sa2 = 0) : Mks w2 L sa2 := by
  obtain ⟨z1, z2, z3, z4, z5, z6, z7⟩ := h.zero
  have far : ∀ x, x < nx → x ≠ sa → x ≠ sa2 := fun x hx hne e => by
    rcases hs with hs | hs
    · exact hne (e.trans hs)
    · omega
  obtain ⟨p1, p2, p3, p4, p5, p6⟩ := h.d1
  obtain ⟨p7, p8, p9, p10, p11⟩ := h.d2
  obtain ⟨p12, p13, p14, p15⟩ := h.d3
  obtain ⟨p16, p17, p18⟩ := h.d4
  obtain ⟨p19, p20, p21⟩ := h.d5
  exact ⟨⟨hw _ h1 z1, hw _ hp z2, hw _ hb z3, hw _ hf z4, hw _ hn z5, hw _ ht z6, hw2⟩, ⟨p1, p2, p3, p4, p5, (far 1 h1 p6.symm).symm⟩, ⟨p7, p8, p9, p10, far _ hp p11⟩, ⟨p12, p13, p14, far _ hb p15⟩, ⟨p16, p17, far _ hf p18⟩, ⟨p19, far _ hn p20, far _ ht p21⟩⟩
/-- the law's memory behind a call of Set or Fresh -/
theorem LawIn.act (h : LawIn z bx L o nx w B hs sa c sv now av all ups) {o2 : Tr AObj} {nx2 : Nat} {w2 : Nat → Nat} {B2 : HB} {hs2 : HS} {sa2 c2 : Nat} {sv2 : List VV} {q : Nat} (hq : nx ≤ q) (hn : q ≤ nx2) (hH : HeapIn o2 nx2 w2 B2 hs2) (hB : B2.i = L.hi) (hf : FrIn o2 nx2 L.kf 2 sa2 c2 sv2) (hs : sa2 = sa ∨ q ≤ sa2) (hw : w2 sa2 = 0)
    (hfr : ∀ x, x < q → w x = 0 → w2 x = 0 ∧ (x ≠ L.kf → o2.get x = o.get x)) : LawIn z bx L o2 nx2 w2 B2 hs2 sa2 c2 sv2 now av all ups := by
  obtain ⟨z1, z2, z3, z4, z5, z6, z7⟩ := h.mks.zero
  obtain ⟨p1, p2, p3, p4, p5, p6⟩ := h.mks.d1
  obtain ⟨p7, p8, p9, p10, p11⟩ := h.mks.d2
  obtain ⟨p12, p13, p14, p15⟩ := h.mks.d3
  obtain ⟨p16, p17, p18⟩ := h.mks.d4
  have lt : ∀ {x}, x < nx → x < q := fun h => Nat.lt_of_lt_of_le h hq
  have lt2 : ∀ {x}, x < nx → x < nx2 := fun h => Nat.lt_of_lt_of_le (lt h) hn
  have a1 := h.ltg; have a2 := h.ltn; have a3 := h.ltt; have a4 := h.prog.ltp; have a5 := h.prog.ltb; have a6 := h.fr.ltf
  have hs' : sa2 = sa ∨ nx ≤ sa2 := hs.imp id fun h => Nat.le_trans hq h
  have hn' := Nat.le_trans hq hn
  exact ⟨hH, hB, h.prog.keep hn' ((hfr _ (lt a4) z2).2 p8) ((hfr _ (lt a5) z3).2 p12), hf, h.mks.turn (nx := nx) (fun x hx hw => (hfr x (lt hx) hw).1) a1 a4 a5 a6 a2 a3 hs' hw, ((hfr _ (lt a1) z1).2 p3.symm).trans h.guest, lt2 a1, lt2 a2, lt2 a3, ((hfr _ (lt a2) z5).2 p16.symm).trans h.now, ((hfr _ (lt a3) z6).2 p17.symm).trans h.prg,
    h.mds.keep hn' hs' fun j hj hwj hne => ⟨(hfr j (lt hj) hwj).2 hne.2.2.2.1, (hfr j (lt hj) hwj).1⟩⟩
theorem LawIn.asMd {all2 : List Md} (h : LawIn z bx L o nx w B hs sa c sv now av all ups) (e : all2 = all) : LawIn z bx L o nx w B hs sa c sv now av all2 ups := by rw [e]; exact h
/-- the numbers are turned -/
theorem LawIn.nowSet (h : LawIn z bx L o nx w B hs sa c sv now av all ups) {o2 : Tr AObj} {nx2 : Nat} {now2 : List Int} (hn : nx ≤ nx2) (h1 : o2.get L.kn = some (.row (now2.map (Value.int .i64)) 59 0 true)) (hk : ∀ x, x < nx → x ≠ L.kn → o2.get x = o.get x) : LawIn z bx L o2 nx2 w B hs sa c sv now2 av all ups := by
  obtain ⟨z1, z2, z3, z4, z5, z6, z7⟩ := h.mks.zero
  obtain ⟨p1, p2, p3, p4, p5, p6⟩ := h.mks.d1
  obtain ⟨p7, p8, p9, p10, p11⟩ := h.mks.d2
  obtain ⟨p12, p13, p14, p15⟩ := h.mks.d3
  obtain ⟨p16, p17, p18⟩ := h.mks.d4
  obtain ⟨p19, p20, p21⟩ := h.mks.d5
  have a1 := h.ltg; have a2 := h.ltn; have a3 := h.ltt; have a4 := h.prog.ltp; have a5 := h.prog.ltb; have a6 := h.fr.ltf; have a7 := h.fr.lts
  have lt : ∀ {x}, x < nx → x < nx2 := fun h => Nat.lt_of_lt_of_le h hn
  exact ⟨h.heap.keep hn (fun x hx => lt (h.heap.wlt x hx)) fun x hx => ⟨hk x (h.heap.wlt x hx) fun e => hx (by rw [e]; exact z5), rfl⟩, h.hB, h.prog.keep hn (hk _ a4 p9) (hk _ a5 p13), h.fr.keep hn (hk _ a6 p16) (hk _ a7 p20.symm), h.mks, (hk _ a1 p4.symm).trans h.guest, lt a1, lt a2, lt a3, h1, (hk _ a3 p19.symm).trans h.prg,
    h.mds.keep hn (.inl rfl) fun j hj hwj hne => ⟨hk j hj hne.2.2.2.2.1, hwj⟩⟩
/-- the made ones are turned in their row -/
theorem LawIn.mdSet (h : LawIn z bx L o nx w B hs sa c sv now av all ups) {o2 : Tr AObj} {nx2 j : Nat} {all2 : List Md} (hn : nx ≤ nx2) (hj : j < nx) (hwj : w j = 0) (hne : j ≠ 1 ∧ j ≠ L.kp ∧ j ≠ L.kb ∧ j ≠ L.kf ∧ j ≠ L.kn ∧ j ≠ L.kt ∧ j ≠ sa) (h1 : o2.get j = some (.row (mdCells all2) 65 5 true)) (hav : av = .slice (some ⟨j, 0, none⟩) all2.length 0) (hk : ∀ x, x < nx → x ≠ j → o2.get x = o.get x) : LawIn z bx L o2 nx2 w B hs sa c sv now av all2 ups := by
  obtain ⟨q1, q2, q3, q4, q5, q6, q7⟩ := id hne
  have a1 := h.ltg; have a2 := h.ltn; have a3 := h.ltt; have a4 := h.prog.ltp; have a5 := h.prog.ltb; have a6 := h.fr.ltf; have a7 := h.fr.lts
  have lt : ∀ {x}, x < nx → x < nx2 := fun h => Nat.lt_of_lt_of_le h hn
  exact ⟨h.heap.keep hn (fun x hx => lt (h.heap.wlt x hx)) fun x hx => ⟨hk x (h.heap.wlt x hx) fun e => hx (by rw [e]; exact hwj), rfl⟩, h.hB, h.prog.keep hn (hk _ a4 q2.symm) (hk _ a5 q3.symm), h.fr.keep hn (hk _ a6 q4.symm) (hk _ a7 q7.symm), h.mks, (hk _ a1 q1.symm).trans h.guest, lt a1, lt a2, lt a3, (hk _ a2 q5.symm).trans h.now, (hk _ a3 q6.symm).trans h.prg,
    .inr ⟨j, hav, lt hj, hwj, hne, h1⟩⟩
/-- the inner function's ups are turned -/
theorem LawIn.turnUps (h : LawIn z bx L o nx w B hs sa c sv now av all ups) {o2 : Tr AObj} {nx2 : Nat} {ups2 : Value} (hn : nx ≤ nx2) (h1 : o2.get L.kp = some (.row [.int .i64 0, .bool false, .int .i64 5, .slice (some ⟨L.kb, 0, none⟩) 5 0, .slice none 0 0, .slice (some ⟨L.ks, 0, none⟩) 1 2, .slice none 0 0, .int .i64 0, .int .i64 0, .bool false, .int .i64 0, .slice none 0 0, ups2, .slice (some ⟨L.ks, 0, none⟩) 1 2, .slice none 0 0, .int .i64 0] 73 8 true))
    (hk : ∀ x, x < nx → x ≠ L.kp → o2.get x = o.get x) : LawIn z bx L o2 nx2 w B hs sa c sv now av all ups2 := by
  obtain ⟨z1, z2, z3, z4, z5, z6, z7⟩ := h.mks.zero
  obtain ⟨p1, p2, p3, p4, p5, p6⟩ := h.mks.d1
  obtain ⟨p7, p8, p9, p10, p11⟩ := h.mks.d2
  have a1 := h.ltg; have a2 := h.ltn; have a3 := h.ltt; have a4 := h.prog.ltp; have a5 := h.prog.ltb; have a6 := h.fr.ltf; have a7 := h.fr.lts
  have lt : ∀ {x}, x < nx → x < nx2 := fun h => Nat.lt_of_lt_of_le h hn
  exact ⟨h.heap.keep hn (fun x hx => lt (h.heap.wlt x hx)) fun x hx => ⟨hk x (h.heap.wlt x hx) fun e => hx (by rw [e]; exact z2), rfl⟩, h.hB, h.prog.turn hn h1 (hk _ a5 p7.symm), h.fr.keep hn (hk _ a6 p8.symm) (hk _ a7 p11.symm), h.mks, (hk _ a1 p1.symm).trans h.guest, lt a1, lt a2, lt a3, (hk _ a2 p9.symm).trans h.now, (hk _ a3 p10.symm).trans h.prg,
    h.mds.keep hn (.inl rfl) fun j hj hwj hne => ⟨hk j hj hne.2.1, hwj⟩⟩
/-- the list of made ones lies in a new block -/
theorem LawIn.mdNew (h : LawIn z bx L o nx w B hs sa c sv now av all ups) {o2 : Tr AObj} {nx2 j : Nat} {all2 : List Md} (hn : nx ≤ nx2) (hj : nx ≤ j) (hj2 : j < nx2) (h1 : o2.get j = some (.row (mdCells all2) 65 5 true)) (hk : ∀ x, x < nx → (∀ n, av ≠ .slice (some ⟨x, 0, none⟩) n 0) → o2.get x = o.get x) : LawIn z bx L o2 nx2 w B hs sa c sv now (.slice (some ⟨j, 0, none⟩) all2.length 0) all2 ups := by
  have a1 := h.ltg; have a2 := h.ltn; have a3 := h.ltt; have a4 := h.prog.ltp; have a5 := h.prog.ltb; have a6 := h.fr.ltf; have a7 := h.fr.lts
  have lt : ∀ {x}, x < nx → x < nx2 := fun h => Nat.lt_of_lt_of_le h hn
  have hwj : w j = 0 := by
    false_or_by_contra
    rename_i hw
    have := h.heap.wlt j hw
    omega
  have key : ∀ x, x < nx → (w x ≠ 0 ∨ x = 1 ∨ x = L.kp ∨ x = L.kb ∨ x = L.kf ∨ x = L.kn ∨ x = L.kt ∨ x = sa) → o2.get x = o.get x := fun x hx hc => by
    refine hk x hx fun n e => ?_
    rcases h.mds with ⟨e2, _⟩ | ⟨q, e2, _, hw, hne, _⟩
    · rw [e] at e2; cases e2
    · rw [e] at e2
      cases e2
      obtain ⟨q1, q2, q3, q4, q5, q6, q7⟩ := hne
      rcases hc with hc | hc | hc | hc | hc | hc | hc | hc
      · exact hc hw
      · exact q1 hc
      · exact q2 hc
      · exact q3 hc
      · exact q4 hc
      · exact q5 hc
      · exact q6 hc
      · exact q7 hc
  have far : ∀ x, x < nx → j ≠ x := fun x hx e => by omega
  exact ⟨h.heap.keep hn (fun x hx => lt (h.heap.wlt x hx)) fun x hx => ⟨key x (h.heap.wlt x hx) (.inl hx), rfl⟩, h.hB, h.prog.keep hn (key _ a4 (by simp)) (key _ a5 (by simp)), h.fr.keep hn (key _ a6 (by simp)) (key _ a7 (by simp)), h.mks, (key _ a1 (by simp)).trans h.guest, lt a1, lt a2, lt a3, (key _ a2 (by simp)).trans h.now, (key _ a3 (by simp)).trans h.prg,
    .inr ⟨j, rfl, hj2, hwj, ⟨far _ a1, far _ a4, far _ a5, far _ a6, far _ a2, far _ a3, far _ a7⟩, h1⟩⟩
/-- a block beside all of these is turned -/
theorem LawIn.beside (M : LawIn z bx L o nx w B hs sa c sv now av all ups) {o2 o3 : Tr AObj} {nx2 nx3 c2 y : Nat} {w2 : Nat → Nat} {B2 : HB} {hs2 : HS} {sv2 : List VV} {now2 : List Int} {ups2 : Value} (h : LawIn z bx L o2 nx2 w2 B2 hs2 sa c2 sv2 now2 av all ups2) (hy : nx ≤ y) (hw : w2 y = 0) (hn : nx2 ≤ nx3) (hk : ∀ x, x < nx2 → x ≠ y → o3.get x = o2.get x) : LawIn z bx L o3 nx3 w2 B2 hs2 sa c2 sv2 now2 av all ups2 := by
  have b1 := M.ltg; have b2 := M.ltn; have b3 := M.ltt; have b4 := M.prog.ltp; have b5 := M.prog.ltb; have b6 := M.fr.ltf; have b7 := M.fr.lts
  have a1 := h.ltg; have a2 := h.ltn; have a3 := h.ltt; have a4 := h.prog.ltp; have a5 := h.prog.ltb; have a6 := h.fr.ltf; have a7 := h.fr.lts
  have far : ∀ {x}, x < nx → x ≠ y := fun hx e => by omega
  have lt : ∀ {x}, x < nx2 → x < nx3 := fun h => Nat.lt_of_lt_of_le h hn
  refine ⟨h.heap.keep hn (fun x hx => lt (h.heap.wlt x hx)) fun x hx => ⟨hk x (h.heap.wlt x hx) fun e => hx (by rw [e]; exact hw), rfl⟩, h.hB, h.prog.keep hn (hk _ a4 (far b4)) (hk _ a5 (far b5)), h.fr.keep hn (hk _ a6 (far b6)) (hk _ a7 (far b7)), h.mks, (hk _ a1 (far b1)).trans h.guest, lt a1, lt a2, lt a3, (hk _ a2 (far b2)).trans h.now, (hk _ a3 (far b3)).trans h.prg, ?_⟩
  rcases M.mds with ⟨e, e1⟩ | ⟨j, e, hj, _⟩
  · exact .inl ⟨e, e1⟩
  · rcases h.mds with h2 | ⟨j2, e2, q1, q2, q3, q4⟩
    · exact .inl h2
    · rw [e] at e2
      cases e2
      exact .inr ⟨j, e, lt q1, q2, q3, (hk _ q1 (far hj)).trans q4⟩
end
end Go.Proofs.Ytckahbnkdiamjaa
