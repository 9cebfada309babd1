/- Texts: what a row gives, as an abstract memory; the chapter's functions as helps. -/
import Derived.Test.YtpncjpgjmpemiaaDoorTextLong
import Derived.Test.YtpncjpgjmpemiaaDoorRows
import Derived.Stop.LaidErr
import Derived.LaidLaws
import Derived.Lib.LaidTab
import Derived.Shelf.Vars
namespace Go.Proofs.YtpncjpgjmpemiaaDoor
open Go.RowKit
set_option linter.unusedSimpArgs false
set_option linter.unusedVariables false

theorem cell_ltT {W : World} {a : Addr} {v : Value} (h : W.cell? a = some v) : a.block < W.heap.size ∧ a.spot = none := by
  unfold World.cell? at h
  split at h
  · rename_i c e fz hb
    cases hs : a.spot with
    | none => exact ⟨(Array.getElem?_eq_some_iff.1 hb).1, rfl⟩
    | some s => rw [hs] at h; simp at h
  · cases h
def gsT : List Nat := [1, 0]
structure LaidT (W : World) : Prop where
  pow : ∃ t fz, W.heap[1]? = some (.cells (Lib.pow10Tab.map (Value.int .u64)).toArray t fz) ∧ ∀ j, j < 20 → (decide (fz.1 ≤ j) && decide (j < fz.2)) = false
  max : ∃ m, W.cell? ⟨0, 0, none⟩ = some (.int .i64 m)
theorem LaidT.tabW {W : World} (h : LaidT W) : TabW W := by
  obtain ⟨t, fz, h1, _⟩ := h.pow
  exact ⟨_, t, fz, h1, rfl⟩
def H0T (t : TypeId) (m : Int) : AHeap :=
  ⟨(Tr.nil.put 1 (some (.row powCells t 0 false))).put 0 (some (.row [.int .i64 m] 0 1 false)), 1000, []⟩
def beT : Ren := fun i =>
  if i = 1 then some ⟨1, 0, 0, 20, false⟩
  else if i = 0 then some ⟨0, 0, 1, 20, false⟩ else none
theorem beT_own : ∀ i s, beT i = some s → s.own = false := by
  intro i s h
  unfold beT at h
  repeat' split at h
  all_goals (cases h <;> rfl)
theorem H0T_rel {W : World} {t : TypeId} {m : Int} {fz : Nat × Nat} (h1 : W.heap[1]? = some (.cells (Lib.pow10Tab.map (Value.int .u64)).toArray t fz) ∧ ∀ j, j < 20 → (decide (fz.1 ≤ j) && decide (j < fz.2)) = false)
    (h2 : W.cell? ⟨0, 0, none⟩ = some (.int .i64 m)) :
    Rel beT (H0T t m) W ∧ GlobOk gsT beT ∧ WF (H0T t m) := by
  have hget : ∀ i, (H0T t m).get i = if i = 0 then some (.row [.int .i64 m] 0 1 false) else if i = 1 then some (.row powCells t 0 false) else none := fun i => by
    unfold H0T; rw [qH, Tr.get_put, Tr.get_put, Tr.get_nil]
  refine ⟨⟨?_, ?_, ?_, ?_⟩, ?_, ?_⟩
  · intro i ob s hi hs
    rw [hget] at hi
    by_cases c1 : i = 0
    · subst c1
      simp [beT] at hs
      simp at hi; subst hi hs
      refine ⟨rfl, fun j v hj => ?_, fun h => by cases h⟩
      match j with
      | 0 => simp at hj; subst hj; exact ⟨_, h2, .int _ _⟩
      | j + 1 => simp at hj
    · rw [if_neg c1] at hi
      by_cases c3 : i = 1
      · subst c3
        simp [beT] at hs
        rw [if_pos rfl] at hi
        cases hi; subst hs
        refine ⟨rfl, fun j v hj => ?_, fun _ => ⟨rfl, _, _, h1.1, by simp [Lib.pow10Tab_length], h1.2⟩⟩
        have hf : flat v = true := by
          obtain ⟨z, _, hz⟩ := List.mem_map.1 (List.mem_of_getElem? hj)
          rw [← hz]; rfl
        refine ⟨v, ?_, (flat_vr hf _).1⟩
        have := cell_of_row W 1 j _ t fz h1.1
        simp only [Nat.zero_add]
        rw [this]
        simpa [powCells] using hj
      · rw [if_neg c3] at hi; cases hi
  · intro i s hs
    unfold beT at hs
    repeat' split at hs
    · cases hs; exact (Array.getElem?_eq_some_iff.1 h1.1).1
    · cases hs; exact (cell_ltT h2).1
    · cases hs
  · intro i j oi oj si sj _ _ c _ _ hso
    rw [beT_own i si c] at hso; cases hso
  · intro i hi
    have hi : 1000 ≤ i := hi
    unfold beT
    rw [if_neg (by omega), if_neg (by omega)]
  · intro g hg
    simp only [gsT, List.mem_cons, List.not_mem_nil, or_false] at hg
    rcases hg with rfl | rfl <;> exact ⟨_, rfl, rfl, rfl, rfl⟩
  · intro i hi
    have hi : 1000 ≤ i := hi
    rw [hget, if_neg (by omega), if_neg (by omega)]
def hasMax (H : AHeap) : Bool := match H.get 0 with
  | some (.row (.int .i64 _ :: _) _ _ _) => true
  | _ => false
theorem tabT {β : Ren} {H : AHeap} {w : World} (hr : Rel β H w) (hg : GlobOk gsT β) (h : hasTab H = true) : ∃ t fz, w.heap[1]? = some (.cells (Lib.pow10Tab.map (Value.int .u64)).toArray t fz) ∧ ∀ j, j < 20 → (decide (fz.1 ≤ j) && decide (j < fz.2)) = false := by
  unfold hasTab at h
  split at h
  · rename_i cells t hget
    obtain ⟨s, hs, hb, hsh, htot⟩ := hg 1 (by simp [gsT])
    obtain ⟨_, h2, h3⟩ := hr.obj _ _ _ hget hs
    obtain ⟨_, c, fz, hc, hz, hfz⟩ := h3 rfl
    have hcells := sameInts_eq _ _ h
    rw [hb] at hc
    suffices e : c = (Lib.pow10Tab.map (Value.int .u64)).toArray by exact ⟨t, fz, e ▸ hc, by rw [htot] at hfz; exact hfz⟩
    apply Array.ext'
    refine List.ext_getElem? fun j => ?_
    simp only [List.toList_toArray]
    by_cases hj : j < 20
    · have hjc : j < cells.length := by rw [hcells, List.length_map, Lib.pow10Tab_length]; exact hj
      obtain ⟨v', hv, hvr⟩ := h2 j cells[j] (List.getElem?_eq_getElem hjc)
      have e : cells[j]? = (Lib.pow10Tab.map (Value.int .u64))[j]? := by rw [hcells]
      rw [List.getElem?_eq_getElem hjc] at e
      rw [← e]
      rw [hb, hsh, Nat.zero_add] at hv
      have hv2 : w.cell? ⟨1, j, none⟩ = c[j]? := cell_of_row w 1 j c t fz hc
      rw [hv2] at hv
      rw [Array.getElem?_toList, hv]
      congr 1
      have : flat cells[j] = true := by
        have hm : ∀ v ∈ cells, flat v = true := fun v hv => by
          rw [hcells] at hv
          obtain ⟨z, _, hz⟩ := List.mem_map.1 hv
          rw [← hz]; rfl
        exact hm _ (List.getElem_mem hjc)
      exact (flat_vr this β).2 _ hvr
    · rw [List.getElem?_eq_none (by simp [hz, htot]; omega), List.getElem?_eq_none (by rw [List.length_map, Lib.pow10Tab_length]; omega)]
  · cases h
theorem maxT {β : Ren} {H : AHeap} {w : World} (hr : Rel β H w) (hg : GlobOk gsT β) (h : hasMax H = true) : ∃ m, w.cell? ⟨0, 0, none⟩ = some (.int .i64 m) := by
  unfold hasMax at h
  split at h
  · rename_i m l e z own hget
    obtain ⟨s, hs, hb, hsh, _⟩ := hg 0 (by simp [gsT])
    obtain ⟨_, h2, _⟩ := hr.obj _ _ _ hget hs
    obtain ⟨v', hv, hvr⟩ := h2 0 (.int .i64 m) rfl
    rw [hb, hsh] at hv
    cases hvr
    exact ⟨m, hv⟩
  · cases h
def small (l : List UInt8) : Bool := Nat.ble l.length 1000000000
def quoteH (args : List Value) (H : AHeap) : Option (Value × AHeap) := match args with
  | [.string s] => cond (hasTab H && small s.data.toList) (some (str (quoteL s.data.toList), H)) none
  | _ => none
def unqH (args : List Value) (H : AHeap) : Option (Value × AHeap) := match args with
  | [.string s] => cond (small s.data.toList) (some (unqV (unqP s.data.toList), H)) none
  | _ => none
def longH (args : List Value) (H : AHeap) : Option (Value × AHeap) := match args with
  | [.string s] => cond (hasMax H && small s.data.toList) (some (.tuple #[str (longL s.data.toList).1, .bool (longL s.data.toList).2], H)) none
  | _ => none
def cmpH (args : List Value) (H : AHeap) : Option (Value × AHeap) := match args with
  | [.string a, .string b] => some (.int .i64 (Lib.compareBytes a.data.toList b.data.toList), H)
  | _ => none
def textO : Helps := fun f => cond (Nat.beq f 15) (some quoteH) (cond (Nat.beq f 12) (some unqH) (cond (Nat.beq f 14) (some longH) (cond (Nat.beq f 16) (some cmpH) none)))
theorem unqV_flat (r : Option (List UInt8)) : flat (unqV r) = true := by cases r <;> rfl
theorem textO_sound : CallSound Tryd.prog gsT (helpFn textO) := fun f args H v H' h hwf => by
  unfold helpFn textO at h
  cases hf1 : Nat.beq f 15 with
  | true =>
    obtain rfl := Nat.eq_of_beq_eq_true hf1
    simp only [Nat.beq_refl, cond] at h
    unfold quoteH at h
    split at h
    · rename_i s
      cases hc : (hasTab H && small s.data.toList) with
      | false => rw [hc] at h; cases h
      | true =>
        rw [hc] at h
        simp only [cond, Option.some.injEq, Prod.mk.injEq] at h
        obtain ⟨rfl, rfl⟩ := h
        rw [Bool.and_eq_true] at hc
        have hs : s.size ≤ 1000000000 := by
          have := Nat.le_of_ble_eq_true hc.2
          simpa using this
        refine quiet_owed rfl rfl fun β w hr hg => ?_
        obtain ⟨t, fz, hp, _⟩ := tabT hr hg hc.1
        exact quote_any s w ⟨_, t, fz, hp, rfl⟩ hs
    · cases h
  | false =>
  rw [hf1] at h
  cases hf2 : Nat.beq f 12 with
  | true =>
    obtain rfl := Nat.eq_of_beq_eq_true hf2
    simp only [Nat.beq_refl, cond] at h
    unfold unqH at h
    split at h
    · rename_i s
      cases hc : small s.data.toList with
      | false => rw [hc] at h; cases h
      | true =>
        rw [hc] at h
        simp only [cond, Option.some.injEq, Prod.mk.injEq] at h
        obtain ⟨rfl, rfl⟩ := h
        have hs : s.size ≤ 1000000000 := by
          have := Nat.le_of_ble_eq_true hc
          simpa using this
        exact quiet_owed rfl (unqV_flat _) fun β w hr hg => unquote_any s w hs
    · cases h
  | false =>
  rw [hf2] at h
  cases hf3 : Nat.beq f 14 with
  | true =>
    obtain rfl := Nat.eq_of_beq_eq_true hf3
    simp only [Nat.beq_refl, cond] at h
    unfold longH at h
    split at h
    · rename_i s
      cases hc : (hasMax H && small s.data.toList) with
      | false => rw [hc] at h; cases h
      | true =>
        rw [hc] at h
        simp only [cond, Option.some.injEq, Prod.mk.injEq] at h
        obtain ⟨rfl, rfl⟩ := h
        rw [Bool.and_eq_true] at hc
        refine quiet_owed rfl rfl fun β w hr hg => ?_
        obtain ⟨m, hm⟩ := maxT hr hg hc.1
        exact long_any s.data.toList (Nat.le_of_ble_eq_true hc.2) m w hm
    · cases h
  | false =>
  rw [hf3] at h
  cases hf4 : Nat.beq f 16 with
  | true =>
    obtain rfl := Nat.eq_of_beq_eq_true hf4
    simp only [Nat.beq_refl, cond] at h
    unfold cmpH at h
    split at h
    · rename_i a b
      simp only [Option.some.injEq, Prod.mk.injEq] at h
      obtain ⟨rfl, rfl⟩ := h
      exact quiet_owed rfl rfl fun β w hr hg => compare_any a b w
    · cases h
  | false => rw [hf4] at h; cases h
def OT : Helps := orHelp encO textO
theorem OT_sound : CallSound Tryd.prog gsT (helpFn OT) := orHelp_sound (encO_sound _) textO_sound
/-- a function of flat arguments that the machine answers by true -/
theorem true_of_t {O : Helps} (ho : CallSound Tryd.prog gsT (helpFn O)) (n : Nat) (f : FuncId) (args : List Value) (hf : args.all flat = true) (W : World) (hL : LaidT W)
    (h : ∀ t m, okTrue (oCall Tryd.prog gsT O n f args (H0T t m)) = true) : Calls Tryd.prog f args.toArray W fun e w' => e = .returned (.bool true) ∧ Below W.heap.size W w' := by
  obtain ⟨⟨t, fz, h1⟩, ⟨m, h2⟩⟩ := hL
  obtain ⟨hr, hg, hwf⟩ := H0T_rel h1 h2
  have h := h t m
  unfold okTrue at h
  split at h
  · rename_i H' hcall
    exact calls_flat ho n f args hf _ rfl beT _ W hr hg hwf beT_own ⟨H', hcall⟩
  · cases h
theorem awakeT_run (t : TypeId) (m : Int) : okTrue (oCall Tryd.prog gsT OT 60 17 [] (H0T t m)) = true := by kernel_rfl
theorem awakeT_any (w : World) (hL : LaidT w) : Calls Tryd.prog 17 #[] w fun e w' => e = .returned (.bool true) ∧ Below w.heap.size w w' := true_of_t OT_sound 60 _ [] rfl w hL awakeT_run
def awakeHT (args : List Value) (H : AHeap) : Option (Value × AHeap) := cond (args.isEmpty && (hasTab H && hasMax H)) (some (.bool true, H)) none
def awakeOT : Helps := fun f => cond (Nat.beq f 17) (some awakeHT) none
def O4 : Helps := orHelp OT awakeOT
theorem O4_sound : CallSound Tryd.prog gsT (helpFn O4) := orHelp_sound OT_sound fun f args H v H' h hwf => by
  unfold helpFn awakeOT at h
  cases hf : Nat.beq f 17 with
  | false => rw [hf] at h; cases h
  | true =>
    obtain rfl := Nat.eq_of_beq_eq_true hf
    simp only [Nat.beq_refl, cond] at h
    unfold awakeHT at h
    cases hc : (args.isEmpty && (hasTab H && hasMax H)) with
    | false => rw [hc] at h; cases h
    | true =>
      rw [hc] at h
      simp only [cond, Option.some.injEq, Prod.mk.injEq] at h
      obtain ⟨rfl, rfl⟩ := h
      rw [Bool.and_eq_true, Bool.and_eq_true] at hc
      have ha : args = [] := List.isEmpty_iff.1 hc.1
      subst ha
      exact quiet_owed rfl rfl fun β w hr hg => awakeT_any w ⟨tabT hr hg hc.2.1, maxT hr hg hc.2.2⟩
theorem numbersT_run (t : TypeId) (m : Int) : okTrue (oCall Tryd.prog gsT O4 60 3 [] (H0T t m)) = true := by kernel_rfl
end Go.Proofs.YtpncjpgjmpemiaaDoor
