/- The abstract machine's one operation does what the model's does; what it notes that it has turned. -/
import Derived.Test.YtdfadipfhcikdaaGreatDoorAmA
import Derived.LoopN
import Derived.Scope
set_option linter.unusedSimpArgs false
set_option linter.unusedVariables false
namespace Go.Proofs.YtdfadipfhcikdaaGreatDoor
open Go.RowKit

theorem arr1 {α : Type} {a : Array α} {x : α} (h : a.toList = [x]) : a = #[x] := by rw [← Array.toArray_toList (xs := a), h]
theorem arr2 {α : Type} {a : Array α} {x y : α} (h : a.toList = [x, y]) : a = #[x, y] := by rw [← Array.toArray_toList (xs := a), h]

theorem map_pair {α : Type} {x : Option α} {f : α → Value × AHeap} {r : Value × AHeap} (h : x.map f = some r) : ∃ a, x = some a ∧ f a = r := Option.map_eq_some_iff.1 h

theorem aSimple_fits {P : Program} {ρ : Operand → Value} {o : Oper} {fid : Nat} {H H' : AHeap} {v : Value} (h : aSimple P ρ o fid H = some (v, H')) : Fits P o ρ fid H v H' := by
  have pureCase : ∀ {v : Value} {H' : AHeap}, (aPure P ρ o).map (fun v => (v, H)) = some (v, H') → Fits P o ρ fid H v H' := fun h => by
    obtain ⟨a, ha, he⟩ := map_pair h
    cases he
    exact fits_pure ha fid H
  unfold aSimple at h
  split at h
  · rename_i x ho; cases h; exact fits_move (.inl ho) fid H
  · rename_i x ho; cases h; exact fits_move (.inr ho) fid H
  · rename_i c x y ho
    split at h
    · rename_i t hc
      have := fits_pick (P := P) ho hc fid H
      cases t <;> (cases h; exact this)
    · cases h
  · rename_i t ho
    split at h
    · rename_i inf hi
      split at h
      · rename_i z hz
        cases hf : flat2 z with
        | false => rw [hf] at h; cases h
        | true => rw [hf] at h; cases h; exact fits_alloc ho hi hz hf fid H
      · cases h
    · cases h
  · rename_i t x ho; cases h; exact fits_box ho fid H
  · rename_i t ps ho
    obtain ⟨a, ha, he⟩ := map_pair h; cases he
    exact fits_build ho ha fid H
  · rename_i t n ps ho; exact fits_buildSlice ho fid H h
  · rename_i t x ho
    obtain ⟨a, ha, he⟩ := map_pair h; cases he
    exact fits_load ho fid H ha
  · rename_i t x y ho
    obtain ⟨a, ha, he⟩ := map_pair h; cases he
    exact fits_store ho fid H ha
  · rename_i x ho
    split at h
    · rename_i a hx; cases h; exact fits_nilCheck ho hx fid H
    · rename_i f a c hx; cases h; exact fits_nilCheckF ho hx fid H
    · cases h
  · rename_i t x f ho
    split at h
    · rename_i cs fs hx ht
      split at h
      · rename_i fd hf
        obtain ⟨a, ha, he⟩ := map_pair h; cases he
        exact fits_field ho hx ht hf ha fid H
      · cases h
    · cases h
  · rename_i x k ho
    split at h
    · rename_i vs hx
      obtain ⟨a, ha, he⟩ := map_pair h; cases he
      exact fits_extract ho hx ha fid H
    · cases h
  · rename_i t x ix ho
    split at h
    · rename_i cs k i n el hx hix ht
      split at h
      · rename_i inf hi
        cases hb : Nat.blt i n with
        | false => rw [hb] at h; cases h
        | true =>
          rw [hb] at h
          obtain ⟨a, ha, he⟩ := map_pair h; cases he
          exact fits_indexArr ho hx hix ht hb hi ha fid H
      · cases h
    · exact pureCase h
  · rename_i fn a c ho; cases h; exact fits_makeFunc ho fid H
  · rename_i t x ho
    split at h
    · cases h
    · rename_i d hd hne
      cases h
      exact fits_makeIface ho hne (by cases d <;> first | rfl | exact (hd _ rfl).elim) fid H
    · cases h
  · rename_i t ho; cases h; exact fits_makeMap ho fid H
  · rename_i t l c ho; exact fits_makeSlice ho fid H h
  · rename_i t x f ho
    split at h
    · rename_i i p fs hx ht
      split at h
      · rename_i fd hf
        split at h
        · rename_i inf hi
          cases hb : Nat.beq inf.size 0 with
          | true => rw [hb] at h; cases h
          | false => rw [hb] at h; cases h; exact fits_fieldAddr ho hx ht hf hi hb fid H
        · cases h
      · cases h
    · cases h
  · rename_i t x ix ho
    split at h
    · rename_i i p n c k j el hx hix ht
      split at h
      · rename_i inf hi
        cases hb : Nat.blt j n with
        | false => rw [hb] at h; cases h
        | true => rw [hb] at h; cases h; exact fits_indexAddr ho hx hix ht hi hb fid H
      · cases h
    · rename_i i p k j n el hx hix ht
      split at h
      · rename_i inf hi
        cases hb : Nat.blt j n with
        | false => rw [hb] at h; cases h
        | true => rw [hb] at h; cases h; exact fits_indexAddrArr ho hx hix ht hi hb fid H
      · cases h
    · cases h
  · rename_i t x lo hi mx ho
    split at h
    · obtain ⟨a, ha, he⟩ := map_pair h; cases he
      exact fits_slice ho fid H ha
    · obtain ⟨a, ha, he⟩ := map_pair h; cases he
      exact fits_sliceArr ho fid H ha
    · exact pureCase h
  · rename_i t x k ok ho
    obtain ⟨a, ha, he⟩ := map_pair h; cases he
    exact fits_lookup ho fid H ha
  · rename_i t x k y ho
    obtain ⟨a, ha, he⟩ := map_pair h; cases he
    exact fits_mapUpdate (.inl ho) fid H ha
  · rename_i t x k y ho
    obtain ⟨a, ha, he⟩ := map_pair h; cases he
    exact fits_mapUpdate (.inr ho) fid H ha
  · rename_i op t x y u ho
    split at h
    · rename_i a ha; cases h; exact fits_pure ha fid H
    · obtain ⟨a, ha, he⟩ := map_pair h; cases he
      exact fits_nilEq ho fid H ha
  · rename_i args tys ho
    split at h
    · rename_i x y t u ha ht
      have := arr2 ha; subst this
      have := arr2 ht; subst this
      cases hz : elemZeroOk P t with
      | false => rw [hz] at h; cases h
      | true =>
        rw [hz] at h
        exact fits_append ho fid H (fun el hel => by unfold elemZeroOk at hz; rw [hel] at hz; exact hz) h
    · cases h
  · rename_i args tys ho
    split at h
    · rename_i x t ha ht
      have := arr1 ha; subst this
      have := arr1 ht; subst this
      split at h
      · rename_i a ha2; cases h; exact fits_len ho fid H ha2
      · exact pureCase h
    · cases h
  · rename_i args tys ho
    split at h
    · rename_i x k t u ha ht
      have := arr2 ha; subst this
      have := arr2 ht; subst this
      obtain ⟨a, ha, he⟩ := map_pair h; cases he
      exact fits_delete ho fid H ha
    · cases h
  · rename_i args tys ho
    split at h
    · rename_i x t ha ht
      have := arr1 ha; subst this
      have := arr1 ht; subst this
      split at h
      · rename_i d hd
        obtain ⟨a, ha, he⟩ := map_pair h; cases he
        exact fits_clear ho hd fid H ha
      · cases h
    · cases h
  · rename_i args tys ho
    split at h
    · rename_i x y t u ha ht
      have := arr2 ha; subst this
      have := arr2 ht; subst this
      exact fits_copy ho fid H h
    · cases h
  · exact pureCase h
  · rename_i src dst x ho
    split at h
    · obtain ⟨a, ha, he⟩ := map_pair h; cases he
      exact fits_toString ho fid H ha
    · exact pureCase h
  · exact pureCase h
  · exact pureCase h
  · exact pureCase h
  · cases h

/-! ### what is noted -/
/-- nothing lies from the next number on -/
def WF (H : AHeap) : Prop := ∀ i, H.next ≤ i → H.get i = none
/-- of the numbers below b those alone were turned that the log names -/
structure LogLe (b : Nat) (H H' : AHeap) : Prop where
  same : ∀ i, i < b → i ∉ H'.log → H'.get i = H.get i
  log : ∀ i, i ∈ H.log → i ∈ H'.log
  next : H.next ≤ H'.next
  live : ∀ i, i < b → H.get i = none → H'.get i = none
  wf : WF H → WF H'
  logged : ∀ i, i ∈ H'.log → i ∈ H.log ∨ H.get i ≠ none ∨ b ≤ i
theorem LogLe.refl (b : Nat) (H : AHeap) : LogLe b H H := ⟨fun _ _ _ => rfl, fun _ h => h, Nat.le_refl _, fun _ _ h => h, fun h => h, fun _ h => .inl h⟩
theorem LogLe.trans {b : Nat} {H H1 H2 : AHeap} (h : LogLe b H H1) (k : LogLe b H1 H2) : LogLe b H H2 :=
  ⟨fun i hi hn => (k.same i hi hn).trans (h.same i hi fun hm => hn (k.log i hm)), fun i hi => k.log i (h.log i hi), Nat.le_trans h.next k.next, fun i hi hn => k.live i hi (h.live i hi hn), fun hw => k.wf (h.wf hw), fun i hi => by
    rcases k.logged i hi with h1 | h1 | h1
    · exact h.logged i h1
    · by_cases hb : i < b
      · exact .inr (.inl fun h2 => h1 (h.live i hb h2))
      · exact .inr (.inr (by omega))
    · exact .inr (.inr h1)⟩
theorem LogLe.mono {b b' : Nat} {H H' : AHeap} (h : LogLe b H H') (hb : b' ≤ b) : LogLe b' H H' := ⟨fun i hi => h.same i (Nat.lt_of_lt_of_le hi hb), h.log, h.next, fun i hi => h.live i (Nat.lt_of_lt_of_le hi hb), h.wf, fun i hi => (h.logged i hi).imp id fun h1 => h1.imp id fun h2 => Nat.le_trans hb h2⟩

theorem mem_note (i j : Nat) (l : List Nat) : j ∈ noteId i l ↔ j = i ∨ j ∈ l := by
  unfold noteId
  cases h : l.any (Nat.beq i) with
  | true =>
    obtain ⟨x, hx, he⟩ := List.any_eq_true.1 h
    have := Nat.eq_of_beq_eq_true he
    subst this
    simp only [cond]
    constructor
    · exact .inr
    · rintro (rfl | h)
      · exact hx
      · exact h
  | false => simp only [cond, List.mem_cons]
theorem mem_notes (j : Nat) : ∀ (l m : List Nat), j ∈ l.foldl (fun m i => noteId i m) m ↔ j ∈ l ∨ j ∈ m
  | [], m => by simp
  | x :: l, m => by
    rw [List.foldl_cons, mem_notes j l, mem_note, List.mem_cons]
    constructor
    · rintro (h | h | h)
      · exact .inl (.inr h)
      · exact .inl (.inl h)
      · exact .inr h
    · rintro ((h | h) | h)
      · exact .inr (.inl h)
      · exact .inl h
      · exact .inr (.inr h)

/-- the same for one operation, that may make the number fid -/
structure LogOne (fid : Nat) (H H' : AHeap) : Prop where
  same : ∀ i, i ≠ fid → i ∉ H'.log → H'.get i = H.get i
  log : ∀ i, i ∈ H.log → i ∈ H'.log
  next : H'.next = H.next
theorem LogOne.refl (fid : Nat) (H : AHeap) : LogOne fid H H := ⟨fun _ _ _ => rfl, fun _ h => h, rfl⟩
theorem LogOne.upd (fid : Nat) (H : AHeap) (i : Nat) (o : Option AObj) : LogOne fid H (H.upd i o) :=
  ⟨fun j _ hl => by
    have hl : j ∉ noteId i H.log := hl
    rw [AHeap.get_upd, if_neg]
    intro e; exact hl ((mem_note i j H.log).2 (.inl e)), fun j hj => (mem_note i j H.log).2 (.inr hj), rfl⟩
theorem LogOne.add (fid : Nat) (H : AHeap) (o : AObj) : LogOne fid H (H.add fid o) :=
  ⟨fun j hj _ => by rw [AHeap.get_add, if_neg hj], fun _ h => h, rfl⟩
theorem LogOne.trans {fid : Nat} {H H1 H2 : AHeap} (h : LogOne fid H H1) (k : LogOne fid H1 H2) : LogOne fid H H2 :=
  ⟨fun i hi hn => (k.same i hi hn).trans (h.same i hi fun hm => hn (k.log i hm)), fun i hi => k.log i (h.log i hi), k.next.trans h.next⟩
theorem storeCells_log (fid i : Nat) (elem : TypeId) (esz : Nat) : ∀ (vs cells : List Value) (o : Nat) (H H' : AHeap), aStoreCells i elem esz H cells o vs = some H' → LogOne fid H H'
  | [], cells, o, H, H', h => by simp only [aStoreCells] at h; cases h; exact .refl _ _
  | v :: vs, cells, o, H, H', h => by
    simp only [aStoreCells] at h
    cases hc : (Nat.blt o cells.length && oneV v) with
    | false => rw [hc] at h; cases h
    | true =>
      rw [hc] at h
      exact (LogOne.upd fid H i _).trans (storeCells_log fid i elem esz vs _ _ _ H' h)
theorem newRow_log (fid : Nat) (cells : List Value) (elem : TypeId) (esz : Nat) (H : AHeap) : LogOne fid H (newRowA fid cells elem esz H) := LogOne.add fid H _

theorem aBuildSlice_log {P : Program} {ρ : Operand → Value} {t : TypeId} {n : Nat} {ps : Array (Nat × Operand)} {fid : Nat} {H : AHeap} {r : Value × AHeap} (h : aBuildSlice P ρ t n ps fid H = some r) : LogOne fid H r.2 := by
  unfold aBuildSlice at h
  simp only [Bool.cond_eq_ite] at h
  (repeat' split at h) <;> first | (cases h; done) | (cases h; exact newRow_log ..)
theorem aMakeSlice_log {P : Program} {t : TypeId} {l c : Value} {fid : Nat} {H : AHeap} {r : Value × AHeap} (h : aMakeSlice P t l c fid H = some r) : LogOne fid H r.2 := by
  unfold aMakeSlice at h
  simp only [Bool.cond_eq_ite] at h
  (repeat' split at h) <;> first | (cases h; done) | (cases h; exact newRow_log ..)
theorem aStore_log {P : Program} {t : TypeId} {x v : Value} {fid : Nat} {H H' : AHeap} (h : aStore P t x v H = some H') : LogOne fid H H' := by
  unfold aStore at h
  simp only [Bool.cond_eq_ite] at h
  (repeat' split at h) <;> first | (cases h; done) | exact storeCells_log _ _ _ _ _ _ _ _ _ h
theorem aMapUpdate_log {P : Program} {t : TypeId} {x k v : Value} {fid : Nat} {H H' : AHeap} (h : aMapUpdate P t x k v H = some H') : LogOne fid H H' := by
  unfold aMapUpdate at h
  simp only [Bool.cond_eq_ite] at h
  (repeat' split at h) <;> first | (cases h; done) | (cases h; exact LogOne.upd ..)
theorem aDelete_log {P : Program} {t : TypeId} {x k : Value} {fid : Nat} {H H' : AHeap} (h : aDelete P t x k H = some H') : LogOne fid H H' := by
  unfold aDelete at h
  simp only [Bool.cond_eq_ite] at h
  (repeat' split at h) <;> first | (cases h; done) | (cases h; exact LogOne.refl ..) | (cases h; exact LogOne.upd ..)
theorem aClear_log {P : Program} {t : TypeId} {x : Value} {fid : Nat} {H H' : AHeap} (h : aClear P t x H = some H') : LogOne fid H H' := by
  unfold aClear at h
  simp only [Bool.cond_eq_ite] at h
  (repeat' split at h) <;> first | (cases h; done) | exact storeCells_log _ _ _ _ _ _ _ _ _ h | (cases h; exact LogOne.refl ..) | (cases h; exact LogOne.upd ..)
theorem aCopy_log {P : Program} {t : TypeId} {x y : Value} {fid : Nat} {H : AHeap} {r : Value × AHeap} (h : aCopy P t x y H = some r) : LogOne fid H r.2 := by
  unfold aCopy at h
  simp only [Bool.cond_eq_ite] at h
  (repeat' split at h) <;> first | (cases h; done) | (obtain ⟨a, ha, he⟩ := Option.map_eq_some_iff.1 h; cases he; exact storeCells_log _ _ _ _ _ _ _ _ _ ha) | (cases h; exact LogOne.refl ..)
theorem aAppend_log {P : Program} {t u : TypeId} {s x : Value} {fid : Nat} {H : AHeap} {r : Value × AHeap} (h : aAppend P t u s x fid H = some r) : LogOne fid H r.2 := by
  unfold aAppend at h
  simp only [Bool.cond_eq_ite] at h
  (repeat' split at h) <;> first | (cases h; done) | (obtain ⟨a, ha, he⟩ := Option.map_eq_some_iff.1 h; cases he; exact storeCells_log _ _ _ _ _ _ _ _ _ ha) | (cases h; exact LogOne.refl ..) | (cases h; exact newRow_log ..) | (cases h; exact (LogOne.upd _ _ _ _).trans (LogOne.add _ _ _))
theorem aSimple_log {P : Program} {ρ : Operand → Value} {o : Oper} {fid : Nat} {H H' : AHeap} {v : Value} (h : aSimple P ρ o fid H = some (v, H')) : LogOne fid H H' := by
  have pureCase : ∀ {x : Option Value} {v : Value} {H' : AHeap}, x.map (fun v => (v, H)) = some (v, H') → LogOne fid H H' := fun h => by
    obtain ⟨a, ha, he⟩ := map_pair h
    cases he
    exact .refl _ _
  have turnCase : ∀ {x : Option AHeap} {v : Value} {H' : AHeap}, x.map (fun H' => (undef, H')) = some (v, H') → x = some H' := fun h => by
    obtain ⟨a, ha, he⟩ := map_pair h
    cases he
    exact ha
  unfold aSimple at h
  simp only [Bool.cond_eq_ite] at h
  (repeat' split at h) <;> first
    | (cases h; done)
    | exact pureCase h
    | exact aBuildSlice_log h
    | exact aMakeSlice_log h
    | exact aAppend_log h
    | exact aCopy_log h
    | exact aStore_log (turnCase h)
    | exact aMapUpdate_log (turnCase h)
    | exact aDelete_log (turnCase h)
    | exact aClear_log (turnCase h)
    | (cases h; exact LogOne.refl ..)
    | (cases h; exact newRow_log ..)
    | (cases h; exact LogOne.add ..)

/-- nothing comes back -/
structure LiveOne (fid : Nat) (H H' : AHeap) : Prop where
  live : ∀ i, i ≠ fid → H.get i = none → H'.get i = none
  logged : ∀ i, i ∈ H'.log → i ∈ H.log ∨ H.get i ≠ none ∨ i = fid
theorem LiveOne.refl (fid : Nat) (H : AHeap) : LiveOne fid H H := ⟨fun _ _ h => h, fun _ h => .inl h⟩
theorem LiveOne.trans {fid : Nat} {H H1 H2 : AHeap} (h : LiveOne fid H H1) (k : LiveOne fid H1 H2) : LiveOne fid H H2 := ⟨fun i hi hn => k.live i hi (h.live i hi hn), fun i hi => by
    rcases k.logged i hi with h1 | h1 | h1
    · exact h.logged i h1
    · by_cases hf : i = fid
      · exact .inr (.inr hf)
      · exact .inr (.inl fun h2 => h1 (h.live i hf h2))
    · exact .inr (.inr h1)⟩
theorem LiveOne.upd (fid : Nat) {H : AHeap} {i : Nat} {o : AObj} (h : H.get i = some o) (o' : Option AObj) : LiveOne fid H (H.upd i o') := by
  refine ⟨fun j _ hn => ?_, fun j hj => ?_⟩
  · rw [AHeap.get_upd]
    by_cases e : j = i
    · subst e; rw [h] at hn; cases hn
    · rw [if_neg e]; exact hn
  · rcases (mem_note i j H.log).1 hj with rfl | h1
    · exact .inr (.inl (by rw [h]; simp))
    · exact .inl h1
theorem LiveOne.add (fid : Nat) (H : AHeap) (o : AObj) : LiveOne fid H (H.add fid o) := ⟨fun j hj hn => by rw [AHeap.get_add, if_neg hj]; exact hn, fun _ h => .inl h⟩
theorem storeCells_live (fid i : Nat) (elem : TypeId) (esz : Nat) : ∀ (vs cells : List Value) (o : Nat) (H H' : AHeap) (x : AObj), H.get i = some x → aStoreCells i elem esz H cells o vs = some H' → LiveOne fid H H'
  | [], cells, o, H, H', x, _, h => by simp only [aStoreCells] at h; cases h; exact .refl _ _
  | v :: vs, cells, o, H, H', x, hx, h => by
    simp only [aStoreCells] at h
    cases hc : (Nat.blt o cells.length && oneV v) with
    | false => rw [hc] at h; cases h
    | true =>
      rw [hc] at h
      exact (LiveOne.upd fid hx _).trans (storeCells_live fid i elem esz vs _ _ _ H' _ (by rw [AHeap.get_upd, if_pos rfl]) h)
theorem newRow_live (fid : Nat) (cells : List Value) (elem : TypeId) (esz : Nat) (H : AHeap) : LiveOne fid H (newRowA fid cells elem esz H) := LiveOne.add fid H _
theorem aBuildSlice_live {P : Program} {ρ : Operand → Value} {t : TypeId} {n : Nat} {ps : Array (Nat × Operand)} {fid : Nat} {H : AHeap} {r : Value × AHeap} (h : aBuildSlice P ρ t n ps fid H = some r) : LiveOne fid H r.2 := by
  unfold aBuildSlice at h
  simp only [Bool.cond_eq_ite] at h
  (repeat' split at h) <;> first | (cases h; done) | (cases h; exact newRow_live ..)
theorem aMakeSlice_live {P : Program} {t : TypeId} {l c : Value} {fid : Nat} {H : AHeap} {r : Value × AHeap} (h : aMakeSlice P t l c fid H = some r) : LiveOne fid H r.2 := by
  unfold aMakeSlice at h
  simp only [Bool.cond_eq_ite] at h
  (repeat' split at h) <;> first | (cases h; done) | (cases h; exact newRow_live ..)
theorem aStore_live {P : Program} {t : TypeId} {x v : Value} {fid : Nat} {H H' : AHeap} (h : aStore P t x v H = some H') : LiveOne fid H H' := by
  unfold aStore at h
  simp only [Bool.cond_eq_ite] at h
  (repeat' split at h) <;> first | (cases h; done) | exact storeCells_live _ _ _ _ _ _ _ _ _ _ (by assumption) h
theorem aMapUpdate_live {P : Program} {t : TypeId} {x k v : Value} {fid : Nat} {H H' : AHeap} (h : aMapUpdate P t x k v H = some H') : LiveOne fid H H' := by
  unfold aMapUpdate at h
  simp only [Bool.cond_eq_ite] at h
  (repeat' split at h) <;> first | (cases h; done) | (cases h; exact LiveOne.upd _ (by assumption) _)
theorem aDelete_live {P : Program} {t : TypeId} {x k : Value} {fid : Nat} {H H' : AHeap} (h : aDelete P t x k H = some H') : LiveOne fid H H' := by
  unfold aDelete at h
  simp only [Bool.cond_eq_ite] at h
  (repeat' split at h) <;> first | (cases h; done) | (cases h; exact LiveOne.refl ..) | (cases h; exact LiveOne.upd _ (by assumption) _)
theorem aClear_live {P : Program} {t : TypeId} {x : Value} {fid : Nat} {H H' : AHeap} (h : aClear P t x H = some H') : LiveOne fid H H' := by
  unfold aClear at h
  simp only [Bool.cond_eq_ite] at h
  (repeat' split at h) <;> first | (cases h; done) | exact storeCells_live _ _ _ _ _ _ _ _ _ _ (by assumption) h | (cases h; exact LiveOne.refl ..) | (cases h; exact LiveOne.upd _ (by assumption) _)
theorem aCopy_live {P : Program} {t : TypeId} {x y : Value} {fid : Nat} {H : AHeap} {r : Value × AHeap} (h : aCopy P t x y H = some r) : LiveOne fid H r.2 := by
  unfold aCopy at h
  simp only [Bool.cond_eq_ite] at h
  (repeat' split at h) <;> first | (cases h; done) | (obtain ⟨a, ha, he⟩ := Option.map_eq_some_iff.1 h; cases he; exact storeCells_live _ _ _ _ _ _ _ _ _ _ (by assumption) ha) | (cases h; exact LiveOne.refl ..)
theorem aAppend_live {P : Program} {t u : TypeId} {s x : Value} {fid : Nat} {H : AHeap} {r : Value × AHeap} (h : aAppend P t u s x fid H = some r) : LiveOne fid H r.2 := by
  unfold aAppend at h
  simp only [Bool.cond_eq_ite] at h
  (repeat' split at h) <;> first | (cases h; done) | (obtain ⟨a, ha, he⟩ := Option.map_eq_some_iff.1 h; cases he; exact storeCells_live _ _ _ _ _ _ _ _ _ _ (by assumption) ha) | (cases h; exact LiveOne.refl ..) | (cases h; exact newRow_live ..) | (cases h; exact (LiveOne.upd _ (by assumption) none).trans (LiveOne.add _ _ _))
theorem aSimple_live {P : Program} {ρ : Operand → Value} {o : Oper} {fid : Nat} {H H' : AHeap} {v : Value} (h : aSimple P ρ o fid H = some (v, H')) : LiveOne fid H H' := by
  have pureCase : ∀ {x : Option Value} {v : Value} {H' : AHeap}, x.map (fun v => (v, H)) = some (v, H') → LiveOne fid H H' := fun h => by
    obtain ⟨a, ha, he⟩ := map_pair h
    cases he
    exact .refl _ _
  have turnCase : ∀ {x : Option AHeap} {v : Value} {H' : AHeap}, x.map (fun H' => (undef, H')) = some (v, H') → x = some H' := fun h => by
    obtain ⟨a, ha, he⟩ := map_pair h
    cases he
    exact ha
  unfold aSimple at h
  simp only [Bool.cond_eq_ite] at h
  (repeat' split at h) <;> first
    | (cases h; done)
    | exact pureCase h
    | exact aBuildSlice_live h
    | exact aMakeSlice_live h
    | exact aAppend_live h
    | exact aCopy_live h
    | exact aStore_live (turnCase h)
    | exact aMapUpdate_live (turnCase h)
    | exact aDelete_live (turnCase h)
    | exact aClear_live (turnCase h)
    | (cases h; exact LiveOne.refl ..)
    | (cases h; exact newRow_live ..)
    | (cases h; exact LiveOne.add ..)
end Go.Proofs.YtdfadipfhcikdaaGreatDoor

namespace Go.Proofs.YtdfadipfhcikdaaGreatDoor
open Go.RowKit

structure EnvRel (β : Ren) (env : Tr Value) (a : Act) (nt : Nat) : Prop where
  size : a.tmps.size = nt
  defers : a.defers = []
  val : ∀ t, VR β ((env.get t).getD undef) (a.tmps.getD t undef)
def GlobOk (gs : List Nat) (β : Ren) : Prop := ∀ g ∈ gs, ∃ s, β g = some s ∧ s.blk = g ∧ s.shift = 0 ∧ s.tot = 20
theorem GlobOk.mono {gs : List Nat} {β β' : Ren} (h : GlobOk gs β) (hb : β.le β') : GlobOk gs β' := fun g hg => let ⟨s, a, b⟩ := h g hg; ⟨s, hb g s a, b⟩
theorem EnvRel.mono {β β' : Ren} {env : Tr Value} {a : Act} {nt : Nat} (h : EnvRel β env a nt) (hb : β.le β') : EnvRel β' env a nt := ⟨h.size, h.defers, fun t => (h.val t).mono hb⟩

theorem eval_at {gs : List Nat} {β : Ren} {env : Tr Value} {a : Act} {o : Oper} (he : ∀ t, Operand.tmp t ∈ o.op.operands → VR β ((env.get t).getD undef) (a.tmps.getD t undef)) (hg : GlobOk gs β) (hc : constsOk gs o = true) : ∀ x ∈ o.op.operands, VR β (aEval env x) (a.eval x) := by
  intro x hx
  have hx2 := List.all_eq_true.1 hc x (Array.mem_toList_iff.2 hx)
  cases x with
  | tmp t => exact he t hx
  | const v => exact (flat_vr hx2 β).1
  | global g =>
    obtain ⟨g', hg', e⟩ := List.any_eq_true.1 hx2
    have := Nat.eq_of_beq_eq_true e; subst this
    obtain ⟨s, h1, h2, h3, _⟩ := hg g hg'
    have h4 : VR β (.pointer (some ⟨g, 0, none⟩)) (.pointer (some ⟨s.blk, s.shift + 0, none⟩)) := .ptr h1
    rw [h2, h3] at h4
    exact h4
  | func f => exact .func rfl rfl (fun j x y hx => by simp at hx) (fun j x y hx => by simp at hx)

theorem eval_vr {gs : List Nat} {β : Ren} {env : Tr Value} {a : Act} {nt : Nat} {o : Oper} (he : EnvRel β env a nt) (hg : GlobOk gs β) (hc : constsOk gs o = true) : ∀ x ∈ o.op.operands, VR β (aEval env x) (a.eval x) := eval_at (fun t _ => he.val t) hg hc

theorem EnvRel.put {β : Ren} {env : Tr Value} {a : Act} {nt : Nat} (h : EnvRel β env a nt) {dst : Option Tmp} {v v' : Value} (hv : VR β v v') (hd : dstOk nt dst = true) : EnvRel β (putE env dst v) (a.put dst v') nt := by
  cases dst with
  | none => exact h
  | some d =>
    have hd' : d < nt := by simpa [dstOk, Nat.blt_eq] using hd
    refine ⟨by simp [Act.put, h.size], h.defers, fun t => ?_⟩
    simp only [putE, Act.put, Tr.get_put]
    by_cases e : t = d
    · subst e
      have hs : t < a.tmps.size := by rw [h.size]; exact hd'
      simp only [if_true, Option.getD_some, Array.getD_eq_getD_getElem?, Array.getElem?_setIfInBounds_self_of_lt hs]
      exact hv
    · rw [if_neg e]
      simp only [Array.getD_eq_getD_getElem?, Array.getElem?_setIfInBounds_ne (Ne.symm e)]
      have := h.val t
      simpa only [Array.getD_eq_getD_getElem?] using this

theorem wanted_at {β : Ren} {env : Tr Value} {a : Act} (ops : Array Oper) (o : Oper) (h : ∀ j want t, o.guard = some (j, want) → (ops[j]?).bind (·.dst) = some t → VR β ((env.get t).getD undef) (a.tmps.getD t undef)) : wantedA o ops.toList env = Region.wanted o (yielded ops a.tmps) := by
  unfold wantedA Region.wanted
  cases hgd : o.guard with
  | none => rfl
  | some g =>
    obtain ⟨j, want⟩ := g
    simp only [yielded, Array.getElem?_toList]
    cases hd : (ops[j]?).bind (·.dst) with
    | none => rfl
    | some t =>
      have hv := h j want t hgd hd
      simp only [Option.bind_some]
      cases ht : a.tmps[t]? with
      | none =>
        have e : a.tmps.getD t undef = undef := by rw [Array.getD_eq_getD_getElem?, ht]; rfl
        rw [e] at hv
        cases he : env.get t with
        | none => rfl
        | some u =>
          rw [he] at hv
          simp only [Option.getD_some] at hv
          unfold undef at hv
          cases hv; rfl
      | some u =>
        have e : a.tmps.getD t undef = u := by rw [Array.getD_eq_getD_getElem?, ht]; rfl
        rw [e] at hv
        cases he : env.get t with
        | none =>
          rw [he] at hv
          simp only [Option.getD_none] at hv
          unfold undef at hv
          cases hv; rfl
        | some u2 =>
          rw [he] at hv
          simp only [Option.getD_some] at hv
          cases hv <;> first | rfl | (rename_i b; cases b <;> cases want <;> rfl)

theorem wanted_same {β : Ren} {env : Tr Value} {a : Act} {nt : Nat} (h : EnvRel β env a nt) (ops : Array Oper) (o : Oper) : wantedA o ops.toList env = Region.wanted o (yielded ops a.tmps) := wanted_at ops o fun _ _ t _ _ => h.val t

def ListVR (β : Ren) (l l' : List Value) : Prop := l.length = l'.length ∧ ∀ (j : Nat) (x y : Value), l[j]? = some x → l'[j]? = some y → VR β x y
theorem ListVR.app {β : Ren} {a b a' b' : List Value} (h : ListVR β a a') (k : ListVR β b b') : ListVR β (a ++ b) (a' ++ b') := ⟨by simp [h.1, k.1], app_vr h.1 h.2 k.2⟩
theorem ListVR.ofArr {β : Ren} {a a' : Array Value} (hs : a.size = a'.size) (h : ∀ (j : Nat) (x y : Value), a[j]? = some x → a'[j]? = some y → VR β x y) : ListVR β a.toList a'.toList := ⟨by simpa using hs, fun j x y hx hy => h j x y (by simpa using hx) (by simpa using hy)⟩
theorem ListVR.map {β : Ren} {ρ ρ' : Operand → Value} (l : List Operand) (h : ∀ x ∈ l, VR β (ρ x) (ρ' x)) : ListVR β (l.map ρ) (l.map ρ') := by
  refine ⟨by simp, fun j x y hx hy => ?_⟩
  rw [List.getElem?_map] at hx hy
  obtain ⟨u, hu, rfl⟩ := Option.map_eq_some_iff.1 hx
  rw [hu] at hy; cases hy
  exact h u (List.mem_of_getElem? hu)

def CallSound (P : Program) (gs : List Nat) (call : CallFn) : Prop := ∀ f args H v H', call f args H = some (v, H') → WF H → LogLe H.next H H' ∧
  (∀ (β : Ren) (w : World) (args' : List Value), Rel β H w → GlobOk gs β → ListVR β args args' → Calls P f args'.toArray w fun e w' => ∃ v' β', e = .returned v' ∧ VR β' v v' ∧ Goes β H w β' H' w' ∧ Ren.agree H.next β β')

structure LogStep (fid : Nat) (H H' : AHeap) : Prop where
  same : ∀ i, i < H.next → i ≠ fid → i ∉ H'.log → H'.get i = H.get i
  log : ∀ i, i ∈ H.log → i ∈ H'.log
  next : H.next ≤ H'.next
  live : ∀ i, i < H.next → i ≠ fid → H.get i = none → H'.get i = none
  wf : fid < H.next → WF H → WF H'
  logged : ∀ i, i ∈ H'.log → i ∈ H.log ∨ H.get i ≠ none ∨ i = fid ∨ H.next ≤ i

theorem callee_some {P : Program} {ρ : Operand → Value} {f : Operand} {as : Array Operand} {ts : Array TypeId} {g : FuncId} {args : List Value} (h : calleeOf P ρ (.call { callee := .value f, args := as, argTypes := ts }) = some (g, args)) :
    ∃ first captured fn, ρ f = .func (.func g) first captured ∧ P.funcs[g]? = some fn ∧ fn.body.isSome = true ∧ (fn.name == "runtime.NumGoroutine") = false ∧ args = first.toList ++ as.toList.map ρ ++ captured.toList := by
  unfold calleeOf at h
  simp only at h
  split at h
  · rename_i g' first captured hf
    split at h
    · rename_i fn hfn
      cases hc : (fn.body.isSome && fn.name != "runtime.NumGoroutine") with
      | false => rw [hc] at h; cases h
      | true =>
        rw [hc] at h
        simp only [cond, Option.some.injEq, Prod.mk.injEq] at h
        obtain ⟨rfl, rfl⟩ := h
        rw [Bool.and_eq_true] at hc
        exact ⟨first, captured, fn, hf, hfn, hc.1, by simpa [bne] using hc.2, rfl⟩
    · cases h
  · cases h

theorem step_log {P : Program} {gs : List Nat} {call : CallFn} (hc : CallSound P gs call) {ρ : Operand → Value} {o : Oper} {fid : Nat} {H H' : AHeap} {v : Value} (hwf : WF H) (h : aStep P call ρ o fid H = some (v, H')) : LogStep fid H H' := by
  unfold aStep at h
  split at h
  · split at h
    · rename_i g args _
      obtain ⟨h1, _⟩ := hc _ _ _ _ _ h hwf
      exact ⟨fun i hi _ hl => h1.same i hi hl, h1.log, h1.next, fun i hi _ hn => h1.live i hi hn, fun _ => h1.wf, fun i hi => (h1.logged i hi).imp id fun h2 => h2.imp id fun h3 => .inr h3⟩
    · cases h
  · have h1 := aSimple_log h
    have h2 := aSimple_live h
    exact ⟨fun i _ hf hl => h1.same i hf hl, h1.log, by rw [h1.next]; exact Nat.le_refl _, fun i _ hf hn => h2.live i hf hn, fun hfn hw i hi => h2.live i (by rw [h1.next] at hi; omega) (hw i (by rw [h1.next] at hi; exact hi)), fun i hi => (h2.logged i hi).imp id fun h3 => h3.imp id fun h4 => .inl h4⟩

theorem step_sound {P : Program} {gs : List Nat} {call : CallFn} (hc : CallSound P gs call) {env : Tr Value} {o : Oper} {fid : Nat} {H H' : AHeap} {v : Value} (h : aStep P call (aEval env) o fid H = some (v, H')) (hwf : WF H)
    {β : Ren} {a : Act} {w : World} (hr : Rel β H w) (hg : GlobOk gs β) (he : ∀ x ∈ o.op.operands, VR β (aEval env x) (a.eval x)) (hf : β fid = none) (hfn : fid < H.next) {next : Act → World → Prop} {Q : Exit → Act → World → Prop}
    (hn : ∀ β' v' w', VR β' v v' → Goes β H w β' H' w' → (∀ i, i ≠ fid → i < H.next → β' i = β i) → next (a.put o.dst v') w') : o.wp P a w next Q := by
  unfold aStep at h
  split at h
  · rename_i f as ts ho
    split at h
    · rename_i g args hcal
      rw [ho] at hcal
      obtain ⟨first, captured, fn, h1, h2, h3, h4, rfl⟩ := callee_some hcal
      obtain ⟨_, hsnd⟩ := hc _ _ _ _ _ h hwf
      have hvf := he f (by simp [ho, Op.operands, Call.operands])
      rw [h1] at hvf
      generalize hu : a.eval f = u at hvf
      cases hvf with
      | @func _ _ first' _ captured' hs1 hs2 hv1 hv2 =>
        have hargs : ListVR β (first.toList ++ as.toList.map (aEval env) ++ captured.toList) (first'.toList ++ as.toList.map a.eval ++ captured'.toList) :=
          ((ListVR.ofArr hs1 hv1).app (ListVR.map _ fun x hx => he x (by simp [ho, Op.operands, Call.operands, Array.mem_toList_iff.1 hx]))).app (ListVR.ofArr hs2 hv2)
        have hcalls := hsnd β w _ hr hg hargs
        unfold Oper.wp
        have hrun : (execOp a.eval o).run P w = .ok (.enter g (first'.toList ++ as.toList.map a.eval ++ captured'.toList).toArray) w := by
          have harr : (first' ++ as.map a.eval) ++ captured' = (first'.toList ++ as.toList.map a.eval ++ captured'.toList).toArray := by apply Array.ext'; simp
          simp only [execOp, ho, resolve, Sem.run_bind, hu, Deferred.ofValue, Sem.run_pure, Result.andThen_ok, invoke, callFunc, run_program, h2, h4]
          cases hb : fn.body with
          | none => rw [hb] at h3; cases h3
          | some c => simp [hb, harr]
        rw [hrun, Oper.upon_enter]
        refine hcalls.mono fun e w' hh => ?_
        obtain ⟨v', β', rfl, q1, q2, q3⟩ := hh
        exact hn β' v' w' q1 q2 (fun i _ hi => q3 i hi)
    · cases h
  · obtain ⟨β', v', w', ⟨n, h1, h2⟩, h3, h4, h5, h6⟩ := aSimple_fits h β w a.eval hr hf hfn he
    have := hn β' v' w' h3 h4 (fun i hi _ => h5 i hi)
    unfold Oper.wp
    rw [h1]
    rcases h2 with rfl | ⟨rfl, rfl⟩
    · rw [Oper.upon_value]; exact this
    · rw [Oper.upon_skip]; exact this

/-- the operations of a region in the text's order -/
theorem aOps_sound {P : Program} {gs : List Nat} {call : CallFn} (hc : CallSound P gs call) (ops : Array Oper) (nt base : Nat) : ∀ (os : List Oper) (k : Nat) (env : Tr Value) (H : AHeap) (env' : Tr Value) (H' : AHeap), os = ops.toList.drop k → aOps P gs call ops.toList nt base os k env H = some (env', H') → base + ops.size ≤ H.next → WF H →
    LogLe base H H' ∧ ∀ (β : Ren) (a : Act) (w : World), Rel β H w → GlobOk gs β → EnvRel β env a nt → (∀ j, k ≤ j → j < ops.size → β (base + j) = none) → ∀ Q : Exit → Act → World → Prop, (∀ β' a' w', Goes β H w β' H' w' → (∀ i, i < base → β' i = β i) → EnvRel β' env' a' nt → Q .normal a' w') → wpOps P ops Q (List.range' k os.length) a w
  | [], k, env, H, env', H', _, h, _, _ => by
    simp only [aOps] at h
    cases h
    refine ⟨.refl _ _, fun β a w hr hg he _ Q hq => ?_⟩
    exact hq β a w (.refl hr) (fun _ _ => rfl) he
  | o :: os, k, env, H, env', H', hos, h, hb, hwf => by
    have hk : k < ops.size := by
      have : (o :: os).length = ops.size - k := by rw [hos]; simp
      simp at this; omega
    have hok : ops[k]? = some o := by
      have : (ops.toList.drop k)[0]? = some o := by rw [← hos]; rfl
      simpa using this
    have hos' : os = ops.toList.drop (k + 1) := by
      have := congrArg List.tail hos
      simpa using this
    simp only [aOps] at h
    cases hd : (dstOk nt o.dst && constsOk gs o) with
    | false => rw [hd] at h; cases h
    | true =>
      rw [hd] at h
      simp only [cond] at h
      rw [Bool.and_eq_true] at hd
      cases hwt : wantedA o ops.toList env with
      | false =>
        rw [hwt] at h
        simp only at h
        obtain ⟨h1, h2⟩ := aOps_sound hc ops nt base os (k + 1) _ H env' H' hos' h hb hwf
        refine ⟨h1, fun β a w hr hg he hfr Q hq => ?_⟩
        have hw2 : Region.wanted o (yielded ops a.tmps) = false := by rw [← wanted_same he]; exact hwt
        simp only [List.length_cons, List.range'_succ, wpOps, hok, hw2, Bool.false_eq_true, if_false]
        exact h2 β _ w hr hg (he.put (vr_undef β) hd.1) (fun j h1 h2 => hfr j (by omega) h2) Q hq
      | true =>
        rw [hwt] at h
        simp only at h
        cases hs : aStep P call (aEval env) o (base + k) H with
        | none => rw [hs] at h; cases h
        | some r =>
          obtain ⟨v, H1⟩ := r
          rw [hs] at h
          simp only at h
          have hl := step_log hc hwf hs
          obtain ⟨h1, h2⟩ := aOps_sound hc ops nt base os (k + 1) _ H1 env' H' hos' h (Nat.le_trans hb hl.next) (hl.wf (by omega) hwf)
          have hl2 : LogLe base H H1 := ⟨fun i hi hn => hl.same i (by omega) (by omega) hn, hl.log, hl.next, fun i hi hn => hl.live i (by omega) (by omega) hn, hl.wf (by omega), fun i hi => by
            rcases hl.logged i hi with h1 | h1 | h1 | h1
            · exact .inl h1
            · exact .inr (.inl h1)
            · exact .inr (.inr (by omega))
            · exact .inr (.inr (by omega))⟩
          refine ⟨hl2.trans h1, fun β a w hr hg he hfr Q hq => ?_⟩
          have hw2 : Region.wanted o (yielded ops a.tmps) = true := by rw [← wanted_same he]; exact hwt
          simp only [List.length_cons, List.range'_succ, wpOps, hok, hw2, if_true]
          refine .inl (step_sound hc hs hwf hr hg (eval_vr he hg hd.2) (hfr k (Nat.le_refl _) hk) (by omega) fun β' v' w' q1 q2 q3 => ?_)
          refine h2 β' _ w' q2.rel (hg.mono q2.le) ((he.mono q2.le).put q1 hd.1) (fun j j1 j2 => ?_) Q fun β2 a2 w2 r1 r2 r3 => hq β2 a2 w2 (q2.trans r1) (fun i hi => (r2 i hi).trans (q3 i (by omega) (by omega))) r3
          rw [q3 (base + j) (by omega) (by omega)]
          exact hfr j (by omega) j2
end Go.Proofs.YtdfadipfhcikdaaGreatDoor

namespace Go.Proofs.YtdfadipfhcikdaaGreatDoor
open Go.RowKit

/-! ### what has been done, in whatever order -/
open Classical in
noncomputable def cur {α : Type} (X : Nat → α) (T : Nat → Prop) (S : Nat → Bool) : Nat → α
  | 0 => X 0
  | k + 1 => if S k = true ∧ T k then X (k + 1) else cur X T S k
theorem cur_upto {α : Type} {X : Nat → α} {T : Nat → Prop} {S : Nat → Bool} (hX : ∀ k, ¬ T k → X (k + 1) = X k) : ∀ m, (∀ j, j < m → T j → S j = true) → cur X T S m = X m
  | 0, _ => rfl
  | m + 1, h => by
    have ih := cur_upto hX m fun j hj => h j (by omega)
    simp only [cur]
    by_cases hT : T m
    · rw [if_pos ⟨h m (by omega) hT, hT⟩]
    · rw [if_neg (fun hh => hT hh.2), ih, hX m hT]
theorem cur_at {α : Type} {X : Nat → α} {T : Nat → Prop} {S : Nat → Bool} (hX : ∀ k, ¬ T k → X (k + 1) = X k) (k : Nat) : ∀ m, k ≤ m → (∀ j, j < m → T j → (S j = true ↔ j < k)) → cur X T S m = X k
  | m, hkm, h => by
    by_cases e : m = k
    · subst e; exact cur_upto hX m fun j hj hT => (h j hj hT).2 hj
    · obtain ⟨m', rfl⟩ : ∃ m', m = m' + 1 := ⟨m - 1, by omega⟩
      simp only [cur]
      rw [if_neg]
      · exact cur_at hX k m' (by omega) fun j hj => h j (by omega)
      · rintro ⟨h1, h2⟩
        have := (h m' (by omega) h2).1 h1
        omega
theorem cur_skip {α : Type} {X : Nat → α} {T : Nat → Prop} {S S' : Nat → Bool} : ∀ m, (∀ j, j < m → T j → S' j = S j) → cur X T S' m = cur X T S m
  | 0, _ => rfl
  | m + 1, h => by
    have ih := cur_skip (X := X) m fun j hj => h j (by omega)
    simp only [cur, ih]
    by_cases hT : T m
    · rw [h m (by omega) hT]
    · rw [if_neg (fun hh => hT hh.2), if_neg (fun hh => hT hh.2)]
theorem cur_last {α : Type} {X : Nat → α} {T : Nat → Prop} {S : Nat → Bool} {k : Nat} (hS : S k = true) (hT : T k) : ∀ m, k < m → (∀ j, k < j → j < m → S j = true → ¬ T j) → cur X T S m = X (k + 1)
  | m, hkm, h => by
    obtain ⟨m', rfl⟩ : ∃ m', m = m' + 1 := ⟨m - 1, by omega⟩
    simp only [cur]
    by_cases e : m' = k
    · subst e; rw [if_pos ⟨hS, hT⟩]
    · rw [if_neg (fun hh => h m' (by omega) (by omega) hh.1 hh.2)]
      exact cur_last hS hT m' (by omega) fun j h1 h2 => h j h1 (by omega)

/-! ### the memory as a function -/
structure RelF (β : Ren) (h : Nat → Option AObj) (N : Nat) (w : World) : Prop where
  obj : ∀ i o s, h i = some o → β i = some s → ObjOk β w s o
  blk : ∀ i s, β i = some s → s.blk < w.heap.size
  apart : ∀ i j oi oj si sj, h i = some oi → h j = some oj → β i = some si → β j = some sj → i ≠ j → si.own = true → si.blk ≠ sj.blk
  fresh : ∀ i, N ≤ i → β i = none
def OwnF (β : Ren) (h : Nat → Option AObj) (b : Nat) : Prop := ∃ i o s, h i = some o ∧ β i = some s ∧ s.own = true ∧ s.blk = b
def VisF (β : Ren) (h : Nat → Option AObj) (b : Nat) : Prop := ∃ i o s, h i = some o ∧ β i = some s ∧ s.blk = b
theorem RelF.toRel {β : Ren} {h : Nat → Option AObj} {N : Nat} {w : World} (hf : RelF β h N w) (M : AHeap) (hM : ∀ i o s, M.get i = some o → β i = some s → h i = some o) (hN : ∀ i, M.next ≤ i → β i = none) : Rel β M w :=
  ⟨fun i o s a b => hf.obj i o s (hM i o s a b) b, hf.blk, fun i j oi oj si sj a b c d => hf.apart i j oi oj si sj (hM i oi si a c) (hM j oj sj b d) c d, hN⟩

/-- one step, by a part of the memory alone -/
structure StepF (β : Ren) (h : Nat → Option AObj) (M : AHeap) (β' : Ren) (h' : Nat → Option AObj) (M' : AHeap) (fid : Nat) (T : Nat → Prop) : Prop where
  sub : ∀ i o s, M.get i = some o → β i = some s → h i = some o
  on : ∀ i, T i → h' i = M'.get i
  off : ∀ i, ¬ T i → h' i = h i
  part : ∀ i, ¬ T i → M'.get i = M.get i
  at_ : T fid
  new : ∀ i, M.next ≤ i → i < M'.next → T i
  agree : ∀ i, i ≠ fid → i < M.next → β' i = β i

theorem StepF.back {β β' : Ren} {h h' : Nat → Option AObj} {M M' : AHeap} {fid : Nat} {T : Nat → Prop} {w w' : World} (st : StepF β h M β' h' M' fid T) (g : Goes β M w β' M' w') {i : Nat} {s : Spot} (hT : ¬ T i) (hs : β' i = some s) : β i = some s := by
  have hf : i ≠ fid := fun e => hT (e ▸ st.at_)
  by_cases hn : i < M.next
  · rw [← st.agree i hf hn]; exact hs
  · have hn' : ¬ i < M'.next := fun h1 => hT (st.new i (by omega) h1)
    have := g.rel.fresh i (by omega)
    rw [this] at hs; cases hs

theorem RelF.after {β β' : Ren} {h h' : Nat → Option AObj} {N N' : Nat} {M M' : AHeap} {fid : Nat} {T : Nat → Prop} {w w' : World} (hf : RelF β h N w) (st : StepF β h M β' h' M' fid T) (g : Goes β M w β' M' w') (hN : ∀ i, N' ≤ i → β' i = none) : RelF β' h' N' w' := by
  have vis : ∀ i o s, h' i = some o → β' i = some s → (T i ∧ M'.get i = some o) ∨ (¬ T i ∧ h i = some o ∧ β i = some s) := by
    intro i o s a b
    by_cases hT : T i
    · exact .inl ⟨hT, by rw [← st.on i hT]; exact a⟩
    · exact .inr ⟨hT, by rw [← st.off i hT]; exact a, st.back g hT b⟩
  -- an old one that the part does not see lies in a block that no one of the part's has
  have far : ∀ i o s, ¬ T i → h i = some o → β i = some s → (∀ o', M.get i = some o' → False) → ∀ j oj sj, M.get j = some oj → β j = some sj → (s.own = true ∨ sj.own = true) → sj.blk ≠ s.blk := by
    intro i o s hT a b hno j oj sj hj hb hown e
    have hne : j ≠ i := fun e2 => by subst e2; exact hno _ hj
    have hh := st.sub j oj sj hj hb
    rcases hown with ho | ho
    · exact hf.apart i j o oj s sj a hh b hb (Ne.symm hne) ho e.symm
    · exact hf.apart j i oj o sj s hh a hb b hne ho e
  refine ⟨fun i o s a b => ?_, g.rel.blk, ?_, hN⟩
  · rcases vis i o s a b with ⟨_, hm⟩ | ⟨hT, hh, hb⟩
    · exact g.rel.obj i o s hm b
    · cases hM : M.get i with
      | some o' =>
        have := st.sub i o' s hM hb
        rw [hh] at this; cases this
        exact g.rel.obj i o s (by rw [st.part i hT]; exact hM) b
      | none =>
        refine (hf.obj i o s hh hb).mono g.le (g.keep s.blk (hf.blk i s hb) ?_)
        rintro ⟨j, oj, sj, h1, h2, h3, h4⟩
        exact far i o s hT hh hb (fun o' h => by rw [hM] at h; cases h) j oj sj h1 h2 (.inr h3) h4
  · intro i j oi oj si sj a b c d hij hso e
    rcases vis i oi si a c with ⟨hTi, hi⟩ | ⟨hTi, hi, hbi⟩ <;> rcases vis j oj sj b d with ⟨hTj, hj⟩ | ⟨hTj, hj, hbj⟩
    · exact g.rel.apart i j oi oj si sj hi hj c d hij hso e
    · -- i is the part's, j is not turned
      cases hM : M.get j with
      | some o' =>
        have := st.sub j o' sj hM hbj
        rw [hj] at this; cases this
        exact g.rel.apart i j oi oj si sj hi (by rw [st.part j hTj]; exact hM) c d hij hso e
      | none =>
        have hlt := hf.blk j sj hbj
        obtain ⟨i0, o0, s0, h1, h2, h3, h4⟩ := g.own si.blk (by omega) ⟨i, oi, si, hi, c, hso, rfl⟩
        exact far j oj sj hTj hj hbj (fun o' h => by rw [hM] at h; cases h) i0 o0 s0 h1 h2 (.inr h3) (by omega)
    · cases hM : M.get i with
      | some o' =>
        have := st.sub i o' si hM hbi
        rw [hi] at this; cases this
        exact g.rel.apart i j oi oj si sj (by rw [st.part i hTi]; exact hM) hj c d hij hso e
      | none =>
        have hlt := hf.blk i si hbi
        obtain ⟨i0, o0, s0, h1, h2, h3⟩ := g.vis sj.blk (by omega) ⟨j, oj, sj, hj, d, rfl⟩
        exact far i oi si hTi hi hbi (fun o' h => by rw [hM] at h; cases h) i0 o0 s0 h1 h2 (.inl hso) (by omega)
    · exact hf.apart i j oi oj si sj hi hj hbi hbj hij hso e

/-- what holds of the whole way so far -/
structure FarF (β0 : Ren) (H0 : AHeap) (w0 : World) (β : Ren) (h : Nat → Option AObj) (w : World) : Prop where
  le : β0.le β
  os : w.os = w0.os
  tape : w.tape = w0.tape
  output : w.output = w0.output
  size : w0.heap.size ≤ w.heap.size
  keep : ∀ b, b < w0.heap.size → ¬ OwnB β0 H0 b → w.heap[b]? = w0.heap[b]?
  own : ∀ b, b < w0.heap.size → OwnF β h b → OwnB β0 H0 b
  vis : ∀ b, b < w0.heap.size → VisF β h b → VisB β0 H0 b
theorem FarF.after {β0 : Ren} {H0 : AHeap} {w0 : World} {β β' : Ren} {h h' : Nat → Option AObj} {M M' : AHeap} {fid : Nat} {T : Nat → Prop} {w w' : World} (hf : FarF β0 H0 w0 β h w) (st : StepF β h M β' h' M' fid T) (g : Goes β M w β' M' w') : FarF β0 H0 w0 β' h' w' := by
  have hown : ∀ b, OwnB β M b → OwnF β h b := fun b ⟨i, o, s, h1, h2, h3, h4⟩ => ⟨i, o, s, st.sub i o s h1 h2, h2, h3, h4⟩
  have hvis : ∀ b, VisB β M b → VisF β h b := fun b ⟨i, o, s, h1, h2, h4⟩ => ⟨i, o, s, st.sub i o s h1 h2, h2, h4⟩
  refine ⟨Ren.le_trans hf.le g.le, g.os.trans hf.os, g.tape.trans hf.tape, g.output.trans hf.output, Nat.le_trans hf.size g.size, fun b hb hn => ?_, ?_, ?_⟩
  · exact (g.keep b (Nat.lt_of_lt_of_le hb hf.size) fun ho => hn (hf.own b hb (hown b ho))).trans (hf.keep b hb hn)
  · rintro b hb ⟨i, o, s, h1, h2, h3, h4⟩
    by_cases hT : T i
    · exact hf.own b hb (hown b (g.own b (Nat.lt_of_lt_of_le hb hf.size) ⟨i, o, s, by rw [← st.on i hT]; exact h1, h2, h3, h4⟩))
    · exact hf.own b hb ⟨i, o, s, by rw [← st.off i hT]; exact h1, st.back g hT h2, h3, h4⟩
  · rintro b hb ⟨i, o, s, h1, h2, h4⟩
    by_cases hT : T i
    · exact hf.vis b hb (hvis b (g.vis b (Nat.lt_of_lt_of_le hb hf.size) ⟨i, o, s, by rw [← st.on i hT]; exact h1, h2, h4⟩))
    · exact hf.vis b hb ⟨i, o, s, by rw [← st.off i hT]; exact h1, st.back g hT h2, h4⟩

/-! ### the edges -/
theorem inner_bit (acc : Array Nat) (i : Nat) : ∀ (es : List Edge) (s : Nat), (es.foldl (fun s e => if Region.binds .any e then s ||| 2 ^ e.on ||| acc.getD e.on 0 else s) s).testBit i = true → s.testBit i = true ∨ ∃ e ∈ es, Region.binds .any e = true ∧ (e.on = i ∨ (acc.getD e.on 0).testBit i = true)
  | [], s, h => .inl h
  | e :: es, s, h => by
    rw [List.foldl_cons] at h
    rcases inner_bit acc i es _ h with h1 | ⟨e', h1, h2⟩
    · by_cases hb : Region.binds .any e = true
      · rw [if_pos hb] at h1
        simp only [Nat.testBit_or, Bool.or_eq_true] at h1
        rcases h1 with (h1 | h1) | h1
        · exact .inl h1
        · rw [Nat.testBit_two_pow] at h1
          exact .inr ⟨e, by simp, hb, .inl (by simpa using h1)⟩
        · exact .inr ⟨e, by simp, hb, .inr h1⟩
      · rw [if_neg hb] at h1; exact .inl h1
    · exact .inr ⟨e', by simp [h1], h2⟩
theorem before_fold (ops : List Oper) (i : Nat) : ∀ (os : List Oper) (acc : Array Nat), acc.size ≤ ops.length → os = ops.drop acc.size → (∀ k o, k < acc.size → ops[k]? = some o → (acc.getD k 0).testBit i = true → ∃ e ∈ o.after.toList, Region.binds .any e = true ∧ (e.on = i ∨ e.on < k ∧ (acc.getD e.on 0).testBit i = true)) →
    ∀ k o, ops[k]? = some o → ((os.foldl (fun acc o => acc.push (o.after.foldl (fun s e => if Region.binds .any e then s ||| 2 ^ e.on ||| acc.getD e.on 0 else s) 0)) acc).getD k 0).testBit i = true →
      ∃ e ∈ o.after.toList, Region.binds .any e = true ∧ (e.on = i ∨ e.on < k ∧ ((os.foldl (fun acc o => acc.push (o.after.foldl (fun s e => if Region.binds .any e then s ||| 2 ^ e.on ||| acc.getD e.on 0 else s) 0)) acc).getD e.on 0).testBit i = true)
  | [], acc, hsz, hos, hacc, k, o, ho, h => by
    simp only [List.foldl_nil] at h ⊢
    have hk : k < acc.size := by
      have h1 : ops.length ≤ acc.size := by have := congrArg List.length hos; simp at this; omega
      have := (List.getElem?_eq_some_iff.1 ho).1; omega
    exact hacc k o hk ho h
  | x :: os, acc, hsz, hos, hacc, k, o, ho, h => by
    simp only [List.foldl_cons] at h ⊢
    have hlt : acc.size < ops.length := by
      have := congrArg List.length hos; simp at this; omega
    have hx : ops[acc.size]? = some x := by
      have : (ops.drop acc.size)[0]? = some x := by rw [← hos]; rfl
      simpa using this
    refine before_fold ops i os _ (by simp; omega) ?_ ?_ k o ho h
    · have := congrArg List.tail hos
      simpa using this
    · intro k o hk ho hb
      simp only [Array.size_push] at hk
      by_cases e : k = acc.size
      · subst e
        rw [hx] at ho; cases ho
        rw [show (acc.push (x.after.foldl (fun s e => if Region.binds .any e then s ||| 2 ^ e.on ||| acc.getD e.on 0 else s) 0)).getD acc.size 0 = x.after.toList.foldl (fun s e => if Region.binds .any e then s ||| 2 ^ e.on ||| acc.getD e.on 0 else s) 0 from by simp [Array.getD_eq_getD_getElem?]] at hb
        rcases inner_bit acc i x.after.toList 0 hb with h0 | ⟨e, h1, h2, h3⟩
        · simp at h0
        · refine ⟨e, h1, h2, h3.imp id fun h4 => ?_⟩
          have hlt2 : e.on < acc.size := by
            rcases Nat.lt_or_ge e.on acc.size with h5 | h5
            · exact h5
            · rw [Array.getD_eq_getD_getElem?, Array.getElem?_eq_none h5] at h4; simp at h4
          refine ⟨hlt2, ?_⟩
          rw [Array.getD_eq_getD_getElem?, Array.getElem?_push_lt hlt2]
          rw [Array.getD_eq_getD_getElem?, Array.getElem?_eq_getElem hlt2] at h4
          exact h4
      · have hk' : k < acc.size := by omega
        rw [Array.getD_eq_getD_getElem?, Array.getElem?_push_lt hk'] at hb
        obtain ⟨e, h1, h2, h3⟩ := hacc k o hk' ho (by rw [Array.getD_eq_getD_getElem?, Array.getElem?_eq_getElem hk']; exact hb)
        refine ⟨e, h1, h2, h3.imp id fun h4 => ⟨h4.1, ?_⟩⟩
        have hlt2 : e.on < acc.size := by omega
        rw [Array.getD_eq_getD_getElem?, Array.getElem?_push_lt hlt2]
        have h5 := h4.2
        rw [Array.getD_eq_getD_getElem?, Array.getElem?_eq_getElem hlt2] at h5
        exact h5
def bfAt (ops : Array Oper) (k : Nat) : Nat := ((Region.before ops).toList[k]?).getD 0
theorem bf_spec (ops : Array Oper) {k i : Nat} {o : Oper} (ho : ops[k]? = some o) (h : (bfAt ops k).testBit i = true) : ∃ e ∈ o.after, Region.binds .any e = true ∧ (e.on = i ∨ (bfAt ops e.on).testBit i = true) := by
  have key := before_fold ops.toList i ops.toList #[] (by simp) (by simp) (fun k o hk => by simp at hk) k o (by simpa using ho)
  have hb : Region.before ops = ops.toList.foldl (fun acc o => acc.push (o.after.foldl (fun s e => if Region.binds .any e then s ||| 2 ^ e.on ||| acc.getD e.on 0 else s) 0)) #[] := by
    unfold Region.before; rw [Array.foldl_toList]
  rw [← hb] at key
  have e1 : ∀ k, (Region.before ops).getD k 0 = bfAt ops k := fun k => by unfold bfAt; rw [Array.getD_eq_getD_getElem?, Array.getElem?_toList]
  rw [e1] at key
  obtain ⟨e, h1, h2, h3⟩ := key h
  exact ⟨e, Array.mem_toList_iff.1 h1, h2, h3.imp id fun h4 => by rw [e1] at h4; exact h4.2⟩
end Go.Proofs.YtdfadipfhcikdaaGreatDoor

namespace Go.Proofs.YtdfadipfhcikdaaGreatDoor
open Go.RowKit

/-- what a class says of an operation that went from H (nothing noted) to H' -/
def ClassSays (P : Program) (call : CallFn) (ρ : Operand → Value) (o : Oper) (fid : Nat) (H H' : AHeap) (v : Value) : Class → Prop
  | .pure => H' = H ∧ ∀ G, aStep P call ρ o fid G = some (v, G)
  | .fresh f => f = fid ∧ ∃ ob, H' = H.add fid ob ∧ ∀ G, aStep P call ρ o fid G = some (v, G.add fid ob)
  | .load i => H' = H ∧ ∃ ob, H.get i = some ob ∧ ∀ G : AHeap, G.get i = some ob → aStep P call ρ o fid G = some (v, G)
  | .other q w => w = H'.log ∧ (q = true → H'.log = [] ∧ H'.next = H.next)

theorem map_fst {x : Option Value} {H H' : AHeap} {v : Value} (h : x.map (fun v => (v, H)) = some (v, H')) : H' = H ∧ ∀ G : AHeap, x.map (fun v => (v, G)) = some (v, G) := by
  obtain ⟨a, rfl, he⟩ := map_pair h
  cases he
  exact ⟨rfl, fun G => rfl⟩

theorem class_spec {P : Program} {call : CallFn} {ρ : Operand → Value} {o : Oper} {fid : Nat} {H H0 H' : AHeap} {v : Value} (hn : H0.next = H.next) (hl : H.log = []) (h : aStep P call ρ o fid H = some (v, H')) : ClassSays P call ρ o fid H H' v (zY ρ fid H0 H' o.op) := by
  have last : ClassSays P call ρ o fid H H' v (.other (Nat.beq H0.next H'.next && H'.log.isEmpty) H'.log) := by
    refine ⟨rfl, fun hq => ?_⟩
    rw [Bool.and_eq_true] at hq
    have := Nat.eq_of_beq_eq_true hq.1
    exact ⟨List.isEmpty_iff.1 hq.2, by omega⟩
  have step : ∀ G, (∀ f as ts, o.op ≠ .call { callee := .value f, args := as, argTypes := ts }) → aStep P call ρ o fid G = aSimple P ρ o fid G := fun G hne => by
    unfold aStep
    split
    · rename_i f as ts ho; exact absurd ho (hne f as ts)
    · rfl
  obtain ⟨dst, op, ty, pos, af, gd⟩ := o
  cases op
  case call c => cases hc : c with
    | mk callee args tys => cases callee with
      | value f => subst hc; exact last
      | invoke r m => subst hc; exact last
      | builtin b =>
        subst hc
        cases b
        case len =>
          rw [step _ (by intro f as ts e; cases e)] at h
          simp only [aSimple] at h
          have hH : H' = H := by
            (repeat' split at h) <;> first | (cases h; done) | (cases h; rfl) | exact (map_fst h).1
          subst hH
          have quiet : ClassSays P call ρ ⟨dst, .call { callee := .builtin .len, args, argTypes := tys }, ty, pos, af, gd⟩ fid H' H' v (.other true []) := ⟨hl.symm, fun _ => ⟨hl, rfl⟩⟩
          simp only [zY]
          split
          · rename_i x hx
            split
            · rename_i a n c hv
              refine ⟨rfl, fun G => ?_⟩
              rw [step _ (by intro f as ts e; cases e)]
              simp only [aSimple, hx] at h ⊢
              cases htl : tys.toList with
              | nil => simp only [htl] at h; cases h
              | cons t ts =>
                cases ts with
                | cons => simp only [htl] at h; cases h
                | nil =>
                  simp only [htl, hv] at h ⊢
                  have e : aLen P t (.slice a n c) G = aLen P t (.slice a n c) H' := by
                    unfold aLen
                    cases P.underlying t with
                    | none => rfl
                    | some d => cases d <;> rfl
                  rw [e]
                  cases hL : aLen P t (.slice a n c) H' with
                  | some u => rw [hL] at h; cases h; rfl
                  | none => rw [hL] at h; exact (map_fst h).2 G
            · rename_i s hv
              refine ⟨rfl, fun G => ?_⟩
              rw [step _ (by intro f as ts e; cases e)]
              simp only [aSimple, hx] at h ⊢
              cases htl : tys.toList with
              | nil => simp only [htl] at h; cases h
              | cons t ts =>
                cases ts with
                | cons => simp only [htl] at h; cases h
                | nil =>
                  simp only [htl, hv] at h ⊢
                  have e : aLen P t (.string s) G = aLen P t (.string s) H' := by
                    unfold aLen
                    cases P.underlying t with
                    | none => rfl
                    | some d => cases d <;> rfl
                  rw [e]
                  cases hL : aLen P t (.string s) H' with
                  | some u => rw [hL] at h; cases h; rfl
                  | none => rw [hL] at h; exact (map_fst h).2 G
            · exact quiet
          · exact quiet
        all_goals exact last
  case lookup t x k ok =>
    rw [step _ (by intro f as ts e; cases e)] at h
    simp only [aSimple] at h
    have hH := (map_fst h).1
    subst hH
    exact ⟨hl.symm, fun _ => ⟨hl, rfl⟩⟩
  case slice t x lo hi mx =>
    rw [step _ (by intro f as ts e; cases e)] at h
    simp only [aSimple] at h
    cases hx : ρ x
    case string s =>
      simp only [zY, hx, ClassSays]
      rw [hx] at h
      obtain ⟨h1, h2⟩ := map_fst h
      refine ⟨h1, fun G => ?_⟩
      rw [step _ (by intro f as ts e; cases e)]
      simp only [aSimple, hx]
      exact h2 G
    all_goals
      have hH : H' = H := by rw [hx] at h; exact (map_fst h).1
      subst hH
      simp only [zY, hx]
      exact ⟨hl.symm, fun _ => ⟨hl, rfl⟩⟩
  case convert src dst x =>
    rw [step _ (by intro f as ts e; cases e)] at h
    simp only [aSimple] at h
    cases hx : ρ x
    case slice a n c =>
      have hH : H' = H := by rw [hx] at h; exact (map_fst h).1
      subst hH
      simp only [zY, hx]
      exact ⟨hl.symm, fun _ => ⟨hl, rfl⟩⟩
    all_goals
      simp only [zY, hx, ClassSays]
      rw [hx] at h
      obtain ⟨h1, h2⟩ := map_fst h
      refine ⟨h1, fun G => ?_⟩
      rw [step _ (by intro f as ts e; cases e)]
      simp only [aSimple, hx]
      exact h2 G
  case load t x =>
    rw [step _ (by intro f as ts e; cases e)] at h
    simp only [aSimple] at h
    obtain ⟨h1, h2⟩ := map_fst h
    cases hx : ρ x with
    | pointer a =>
      cases a with
      | none => rw [hx] at h; simp [aLoad] at h
      | some a =>
        obtain ⟨i, p, sp⟩ := a
        cases sp with
        | some s => rw [hx] at h; simp [aLoad] at h
        | none =>
          simp only [zY, hx, ClassSays]
          rw [hx] at h
          cases hg : H.get i with
          | none => simp [aLoad, hg] at h
          | some ob =>
            refine ⟨h1, ob, rfl, fun G hG => ?_⟩
            rw [step _ (by intro f as ts e; cases e)]
            simp only [aSimple, hx]
            have : aLoad P t (.pointer (some ⟨i, p, none⟩)) G = aLoad P t (.pointer (some ⟨i, p, none⟩)) H := by simp only [aLoad, hg, hG]
            rw [this]
            exact (map_fst h).2 G
    | _ => rw [hx] at h; simp [aLoad] at h
  case alloc t =>
    rw [step _ (by intro f as ts e; cases e)] at h
    simp only [aSimple] at h
    split at h
    · rename_i inf hi
      split at h
      · rename_i z hz
        cases hf : flat2 z with
        | false => rw [hf] at h; cases h
        | true =>
          rw [hf] at h; cases h
          refine ⟨rfl, _, rfl, fun G => ?_⟩
          rw [step _ (by intro f as ts e; cases e)]
          simp only [aSimple, hi, hz, hf]; rfl
      · cases h
    · cases h
  case box t x =>
    rw [step _ (by intro f as ts e; cases e)] at h
    simp only [aSimple] at h
    cases h
    refine ⟨rfl, _, rfl, fun G => ?_⟩
    rw [step _ (by intro f as ts e; cases e)]
    rfl
  case buildSlice t n ps =>
    rw [step _ (by intro f as ts e; cases e)] at h
    simp only [aSimple] at h
    have : ∃ ob, H' = H.add fid ob ∧ ∀ G, aBuildSlice P ρ t n ps fid G = some (v, G.add fid ob) := by
      unfold aBuildSlice at h ⊢
      split at h
      · split at h
        · split at h
          · rename_i z _
            simp only [Bool.cond_eq_ite] at h ⊢
            split at h
            · rename_i hcc
              split at h
              · cases h
                exact ⟨_, rfl, fun G => by simp only [*, if_true]; rfl⟩
              · cases h
            · cases h
          · cases h
        · cases h
      · cases h
    obtain ⟨ob, h1, h2⟩ := this
    refine ⟨rfl, ob, h1, fun G => ?_⟩
    rw [step _ (by intro f as ts e; cases e)]
    simp only [aSimple]; exact h2 G
  case makeSlice t l c =>
    rw [step _ (by intro f as ts e; cases e)] at h
    simp only [aSimple] at h
    have : ∃ ob, H' = H.add fid ob ∧ ∀ G, aMakeSlice P t (ρ l) (ρ c) fid G = some (v, G.add fid ob) := by
      unfold aMakeSlice at h ⊢
      split at h
      · split at h
        · split at h
          · split at h
            · simp only [Bool.cond_eq_ite] at h ⊢
              split at h
              · cases h
                exact ⟨_, rfl, fun G => by simp only [*, if_true]; rfl⟩
              · cases h
            · cases h
          · cases h
        · cases h
      · cases h
    obtain ⟨ob, h1, h2⟩ := this
    refine ⟨rfl, ob, h1, fun G => ?_⟩
    rw [step _ (by intro f as ts e; cases e)]
    simp only [aSimple]; exact h2 G
  case makeMap t r =>
    rw [step _ (by intro f as ts e; cases e)] at h
    cases r with
    | some r => simp only [aSimple] at h; cases h
    | none =>
      simp only [aSimple] at h
      cases h
      refine ⟨rfl, _, rfl, fun G => ?_⟩
      rw [step _ (by intro f as ts e; cases e)]
      rfl
  case insert => exact last
  case store => exact last
  case ready => exact last
  case waits => exact last
  case sliceToArrayPointer => exact last
  case makeChan => exact last
  case mapUpdate => exact last
  case mapEntry => exact last
  case entryStore => exact last
  case range => exact last
  case next => exact last
  case entry => exact last
  case typeAssert => exact last
  case go => exact last
  case defer => exact last
  case panic => exact last
  case send => exact last
  case recv => exact last
  case select => exact last
  all_goals
    rw [step _ (by intro f as ts e; cases e)] at h
    show H' = H ∧ ∀ G, aStep P call ρ _ fid G = some (v, G)
    refine ⟨?_, fun G => ?_⟩
    · simp only [aSimple, Bool.cond_eq_ite] at h
      (repeat' split at h) <;> first
        | (cases h; done)
        | exact (map_fst h).1
        | (cases h; rfl)
    · rw [step _ (by intro f as ts e; cases e)]
      simp only [aSimple, Bool.cond_eq_ite] at h ⊢
      (repeat' split at h) <;> first
        | (cases h; done)
        | exact (map_fst h).2 G
        | (cases h; simp_all; done)
        | (have := (map_fst h).2 G; simp_all; done)
end Go.Proofs.YtdfadipfhcikdaaGreatDoor

namespace Go.Proofs.YtdfadipfhcikdaaGreatDoor
open Go.RowKit

def relog (H' : AHeap) (l : List Nat) : AHeap := { H' with log := H'.log.foldl (fun l i => noteId i l) l }
def unlog (H : AHeap) : AHeap := { H with log := [] }
/-- what was done, operation by operation, in the text's order, from place k on -/
structure Trace (P : Program) (gs : List Nat) (call : CallFn) (ops : Array Oper) (nt base k0 : Nat) (env : Nat → Tr Value) (H : Nat → AHeap) (cls : Nat → Option Class) (val : Nat → Value) (res : Nat → AHeap) : Prop where
  step : ∀ k o, k0 ≤ k → ops[k]? = some o → dstOk nt o.dst = true ∧ constsOk gs o = true ∧
    ((wantedA o ops.toList (env k) = false ∧ env (k + 1) = putE (env k) o.dst undef ∧ H (k + 1) = H k ∧ cls k = none) ∨
     (wantedA o ops.toList (env k) = true ∧ aStep P call (aEval (env k)) o (base + k) (unlog (H k)) = some (val k, res k) ∧ env (k + 1) = putE (env k) o.dst (val k) ∧ H (k + 1) = relog (res k) (H k).log ∧ cls k = some (zY (aEval (env k)) (base + k) (H k) (res k) o.op)))
  pair : ∀ i k c d, k0 ≤ i → i < k → k < ops.size → cls i = some c → cls k = some d → (bfAt ops k).testBit i = true ∨ clash c d = false

theorem draw_trace {P : Program} {gs : List Nat} {call : CallFn} (ops : Array Oper) (nt base : Nat) : ∀ (os : List Oper) (k : Nat) (env : Tr Value) (H : AHeap) (cs : List (Nat × Class)) (env' : Tr Value) (H' : AHeap), k ≤ ops.size → os = ops.toList.drop k → (∀ p ∈ cs, p.1 < k) → aDraw P gs call ops.toList (Region.before ops).toList nt base os k env H cs = some (env', H') →
    ∃ (E : Nat → Tr Value) (M : Nat → AHeap) (cls : Nat → Option Class) (val : Nat → Value) (res : Nat → AHeap), E k = env ∧ M k = H ∧ E ops.size = env' ∧ M ops.size = H' ∧ Trace P gs call ops nt base k E M cls val res ∧ ∀ p ∈ cs, ∀ j d, k ≤ j → j < ops.size → cls j = some d → (bfAt ops j).testBit p.1 = true ∨ clash p.2 d = false
  | [], k, env, H, cs, env', H', hk, hos, _, h => by
    simp only [aDraw] at h
    cases h
    have hks : k = ops.size := by
      have := congrArg List.length hos; simp at this; omega
    subst hks
    exact ⟨fun _ => env, fun _ => H, fun _ => none, fun _ => undef, fun _ => H, rfl, rfl, rfl, rfl, ⟨fun k o hk ho => by have := (Array.getElem?_eq_some_iff.1 ho).1; omega, fun i k c d h1 h2 h3 h4 => by cases h4⟩, fun p _ j d h1 h2 => by omega⟩
  | o :: os, k, env, H, cs, env', H', hk, hos, hcs, h => by
    have hks : k < ops.size := by
      have := congrArg List.length hos; simp at this; omega
    have hok : ops[k]? = some o := by
      have : (ops.toList.drop k)[0]? = some o := by rw [← hos]; rfl
      simpa using this
    have hos' : os = ops.toList.drop (k + 1) := by
      have := congrArg List.tail hos
      simpa using this
    simp only [aDraw] at h
    cases hd : (dstOk nt o.dst && constsOk gs o) with
    | false => rw [hd] at h; cases h
    | true =>
      rw [hd] at h
      simp only [cond] at h
      rw [Bool.and_eq_true] at hd
      cases hwt : wantedA o ops.toList env with
      | false =>
        rw [hwt] at h
        simp only at h
        obtain ⟨E, M, cls, val, res, h1, h2, h3, h4, ht, hp⟩ := draw_trace ops nt base os (k + 1) _ H cs env' H' (by omega) hos' (fun p hp => by have := hcs p hp; omega) h
        refine ⟨fun j => if j = k then env else E j, fun j => if j = k then H else M j, fun j => if j = k then none else cls j, val, res, if_pos rfl, if_pos rfl, by simp only; rw [if_neg (by omega)]; exact h3, by simp only; rw [if_neg (by omega)]; exact h4, ⟨fun j o' hj ho' => ?_, fun i j c d hi hij hj hc hd => ?_⟩, fun p hp' j d hj hjs hcd => ?_⟩
        · by_cases e : j = k
          · subst e
            rw [hok] at ho'; cases ho'
            refine ⟨hd.1, hd.2, .inl ⟨by simp only [if_true]; exact hwt, by simp only [if_true]; rw [if_neg (by omega)]; exact h1, by simp only [if_true]; rw [if_neg (by omega)]; exact h2, by simp⟩⟩
          · have := ht.step j o' (by omega) ho'
            simp only [if_neg e, if_neg (show ¬ j + 1 = k by omega)]
            exact this
        · by_cases e : i = k
          · subst e; simp at hc
          · simp only [if_neg e] at hc
            simp only [if_neg (show ¬ j = k by omega)] at hd
            exact ht.pair i j c d (by omega) hij hj hc hd
        · by_cases e : j = k
          · subst e; simp at hcd
          · simp only [if_neg e] at hcd
            exact hp p hp' j d (by omega) hjs hcd
      | true =>
        rw [hwt] at h
        simp only at h
        cases hs : aStep P call (aEval env) o (base + k) { H with log := [] } with
        | none => rw [hs] at h; cases h
        | some r =>
          obtain ⟨v, R⟩ := r
          rw [hs] at h
          simp only at h
          cases hcl : (cs.any fun p => !(((Region.before ops).toList[k]?).getD 0).testBit p.1 && clash p.2 (zY (aEval env) (base + k) H R o.op)) with
          | true => rw [hcl] at h; cases h
          | false =>
            rw [hcl] at h
            simp only at h
            obtain ⟨E, M, cls, val, res, h1, h2, h3, h4, ht, hp⟩ := draw_trace ops nt base os (k + 1) _ _ _ env' H' (by omega) hos' (fun p hp => by
              rcases List.mem_cons.1 hp with rfl | hp
              · simp
              · have := hcs p hp; omega) h
            refine ⟨fun j => if j = k then env else E j, fun j => if j = k then H else M j, fun j => if j = k then some (zY (aEval env) (base + k) H R o.op) else cls j, fun j => if j = k then v else val j, fun j => if j = k then R else res j, if_pos rfl, if_pos rfl, by simp only; rw [if_neg (by omega)]; exact h3, by simp only; rw [if_neg (by omega)]; exact h4, ⟨fun j o' hj ho' => ?_, fun i j c d hi hij hj hc hd => ?_⟩, fun p hp' j d hj hjs hcd => ?_⟩
            · by_cases e : j = k
              · subst e
                rw [hok] at ho'; cases ho'
                refine ⟨hd.1, hd.2, .inr ⟨by simp only [if_true]; exact hwt, by simp only [if_true]; exact hs, by simp only [if_true]; rw [if_neg (by omega)]; exact h1, by simp only [if_true]; rw [if_neg (by omega)]; exact h2, by simp⟩⟩
              · have := ht.step j o' (by omega) ho'
                simp only [if_neg e, if_neg (show ¬ j + 1 = k by omega)]
                exact this
            · simp only [if_neg (show ¬ j = k by omega)] at hd
              by_cases e : i = k
              · subst e
                simp only [if_true, Option.some.injEq] at hc
                subst hc
                exact hp _ (List.mem_cons_self) j d (by omega) hj hd
              · simp only [if_neg e] at hc
                exact ht.pair i j c d (by omega) hij hj hc hd
            · by_cases e : j = k
              · subst e
                simp only [if_true, Option.some.injEq] at hcd
                subst hcd
                have := List.any_eq_false.1 hcl p hp'
                unfold bfAt
                cases hb : ((((Region.before ops).toList[j]?).getD 0).testBit p.1) with
                | true => exact .inl rfl
                | false => rw [hb] at this; exact .inr (by simpa using this)
              · simp only [if_neg e] at hcd
                exact hp p (List.mem_cons_of_mem _ hp') j d (by omega) hjs hcd

/-- what an operation turns -/
def touch (base : Nat) (H : Nat → AHeap) (cls : Nat → Option Class) (res : Nat → AHeap) (k i : Nat) : Prop :=
  cls k ≠ none ∧ (i ∈ (res k).log ∨ i = base + k ∨ ((H k).next ≤ i ∧ i < (H (k + 1)).next))

section
variable {P : Program} {gs : List Nat} {call : CallFn} {ops : Array Oper} {nt base : Nat} {E : Nat → Tr Value} {M : Nat → AHeap} {cls : Nat → Option Class} {val : Nat → Value} {res : Nat → AHeap}

theorem Trace.facts (hc : CallSound P gs call) (ht : Trace P gs call ops nt base 0 E M cls val res) (hb : base + ops.size ≤ (M 0).next) (hw : WF (M 0)) :
    ∀ k, k ≤ ops.size → WF (M k) ∧ base + ops.size ≤ (M k).next ∧ (∀ j, k ≤ j → (M 0).get (base + j) = none → j < ops.size → (M k).get (base + j) = none)
  | 0, _ => ⟨hw, hb, fun j _ h _ => h⟩
  | k + 1, hk => by
    obtain ⟨h1, h2, h3⟩ := Trace.facts hc ht hb hw k (by omega)
    have hok : ops[k]? = some (ops[k]'(by omega)) := by simp
    obtain ⟨_, _, hs⟩ := ht.step k _ (Nat.zero_le _) hok
    rcases hs with ⟨_, _, hH, _⟩ | ⟨_, hs, _, hH, _⟩
    · rw [hH]; exact ⟨h1, h2, fun j hj => h3 j (by omega)⟩
    · have hl := step_log hc (show WF (unlog (M k)) from h1) hs
      have hn : (unlog (M k)).next ≤ (res k).next := hl.next
      have hn' : (M k).next ≤ (res k).next := hn
      rw [hH]
      refine ⟨?_, Nat.le_trans h2 hn', fun j hj h0 hjs => ?_⟩
      · have := hl.wf (show base + k < (M k).next by omega) (show WF (unlog (M k)) from h1)
        exact this
      · exact hl.live (base + j) (show base + j < (M k).next by omega) (by omega) (h3 j (by omega) h0 hjs)

theorem Trace.off (hc : CallSound P gs call) (ht : Trace P gs call ops nt base 0 E M cls val res) (hb : base + ops.size ≤ (M 0).next) (hw : WF (M 0)) {k : Nat} (hk : k < ops.size) {i : Nat} (hT : ¬ touch base M cls res k i) : (M (k + 1)).get i = (M k).get i := by
  have hok : ops[k]? = some (ops[k]'hk) := by simp [hk]
  obtain ⟨_, _, hs⟩ := ht.step k _ (Nat.zero_le _) hok
  rcases hs with ⟨_, _, hH, _⟩ | ⟨_, hs, _, hH, hcl⟩
  · rw [hH]
  · have hl := step_log hc (show WF (unlog (M k)) from (Trace.facts hc ht hb hw k (by omega)).1) hs
    have h1 : i ∉ (res k).log := fun h => hT ⟨by rw [hcl]; simp, .inl h⟩
    have h2 : i ≠ base + k := fun h => hT ⟨by rw [hcl]; simp, .inr (.inl h)⟩
    by_cases hi : i < (M k).next
    · rw [hH]; exact hl.same i hi h2 h1
    · have h3 : ¬ i < (M (k + 1)).next := fun h => hT ⟨by rw [hcl]; simp, .inr (.inr ⟨by omega, h⟩)⟩
      rw [(Trace.facts hc ht hb hw (k + 1) hk).1 i (by omega), (Trace.facts hc ht hb hw k (by omega)).1 i (by omega)]
theorem Trace.next (hc : CallSound P gs call) (ht : Trace P gs call ops nt base 0 E M cls val res) (hb : base + ops.size ≤ (M 0).next) (hw : WF (M 0)) : ∀ (k j : Nat), k ≤ j → j ≤ ops.size → (M k).next ≤ (M j).next
  | k, 0, h, _ => by rw [show k = 0 by omega]; exact Nat.le_refl _
  | k, j + 1, h, hj => by
    by_cases e : k = j + 1
    · rw [e]; exact Nat.le_refl _
    · refine Nat.le_trans (Trace.next hc ht hb hw k j (by omega) (by omega)) ?_
      have hok : ops[j]? = some (ops[j]'(by omega)) := by simp
      obtain ⟨_, _, hs⟩ := ht.step j _ (Nat.zero_le _) hok
      rcases hs with ⟨_, _, hH, _⟩ | ⟨_, hs, _, hH, hcl⟩
      · rw [hH]; exact Nat.le_refl _
      · rw [hH]; exact (step_log hc (show WF (unlog (M j)) from (Trace.facts hc ht hb hw j (by omega)).1) hs).next
end
end Go.Proofs.YtdfadipfhcikdaaGreatDoor

namespace Go.Proofs.YtdfadipfhcikdaaGreatDoor
open Go.RowKit

theorem order_on {ops : Array Oper} (h : orderOk ops.toList (Region.before ops).toList = true) {k : Nat} {o : Oper} (ho : ops[k]? = some o) : (∀ e ∈ o.after, Region.binds .any e = true → e.on < k) ∧
    ∀ t ∈ namesOf ops.toList o, ∀ j p, ops[j]? = some p → p.dst = some t → j = k ∨ (j < k ∧ (bfAt ops k).testBit j = true) ∨ (k < j ∧ (bfAt ops j).testBit k = true) := by
  have hz : ∀ {k : Nat} {o : Oper}, ops[k]? = some o → (o, k) ∈ ops.toList.zipIdx := fun {k o} ho => by
    rw [List.mem_iff_getElem?]
    exact ⟨k, by simp [List.getElem?_zipIdx, ho]⟩
  have h1 := List.all_eq_true.1 h _ (hz ho)
  simp only [Bool.and_eq_true] at h1
  obtain ⟨h1, h2⟩ := h1
  refine ⟨fun e he hb => ?_, fun t ht j p hp hd => ?_⟩
  · have := List.all_eq_true.1 h1 e (Array.mem_toList_iff.2 he)
    simp only [hb, Bool.not_true, Bool.false_or, Nat.blt_eq] at this
    exact this
  · have h3 := List.all_eq_true.1 (List.all_eq_true.1 h2 t ht) _ (hz hp)
    simp only [hd, beq_self_eq_true, Bool.not_true, Bool.false_or, Bool.or_eq_true] at h3
    rcases h3 with h3 | h3
    · exact .inl (Nat.eq_of_beq_eq_true h3)
    · cases hb : Nat.blt j k with
      | true =>
        rw [hb] at h3
        rw [Nat.blt_eq] at hb
        exact .inr (.inl ⟨hb, h3⟩)
      | false =>
        rw [hb] at h3
        have hb' : ¬ j < k := fun hh => by rw [show Nat.blt j k = true from by rw [Nat.blt_eq]; exact hh] at hb; cases hb
        by_cases e : j = k
        · exact .inl e
        · exact .inr (.inr ⟨by omega, h3⟩)

theorem mem_names_dst {ops : List Oper} {o : Oper} {t : Tmp} (h : o.dst = some t) : t ∈ namesOf ops o := by simp [namesOf, h]
theorem mem_names_op {ops : List Oper} {o : Oper} {t : Tmp} (h : Operand.tmp t ∈ o.op.operands) : t ∈ namesOf ops o := by
  simp only [namesOf, List.mem_append, List.mem_filterMap]
  exact .inl (.inr ⟨.tmp t, Array.mem_toList_iff.2 h, rfl⟩)
theorem mem_names_guard {ops : Array Oper} {o : Oper} {j : Nat} {want : Bool} {t : Tmp} (h : o.guard = some (j, want)) (hd : (ops[j]?).bind (·.dst) = some t) : t ∈ namesOf ops.toList o := by
  simp only [namesOf, List.mem_append, h]
  refine .inr ?_
  simp [hd]

section
variable {P : Program} {gs : List Nat} {call : CallFn} {ops : Array Oper} {nt base : Nat} {E : Nat → Tr Value} {M : Nat → AHeap} {cls : Nat → Option Class} {val : Nat → Value} {res : Nat → AHeap}

noncomputable def curH (base : Nat) (M : Nat → AHeap) (cls : Nat → Option Class) (res : Nat → AHeap) (n : Nat) (S : Nat → Bool) (i : Nat) : Option AObj := cur (fun k => (M k).get i) (fun k => touch base M cls res k i) S n
noncomputable def curE (ops : Array Oper) (E : Nat → Tr Value) (S : Nat → Bool) (t : Nat) : Option Value := cur (fun k => (E k).get t) (fun k => ∃ o, ops[k]? = some o ∧ o.dst = some t) S ops.size

structure Inv (P : Program) (gs : List Nat) (ops : Array Oper) (nt base : Nat) (E : Nat → Tr Value) (M : Nat → AHeap) (cls : Nat → Option Class) (res : Nat → AHeap) (β0 : Ren) (H0 : AHeap) (w0 : World) (S : Nat → Bool) (a : Act) (w : World) (β : Ren) : Prop where
  rel : RelF β (curH base M cls res ops.size S) (M ops.size).next w
  far : FarF β0 H0 w0 β (curH base M cls res ops.size S) w
  old : ∀ i, i < base → β i = β0 i
  futA : ∀ j, j < ops.size → S j = false → β (base + j) = none
  futB : ∀ j, j < ops.size → S j = false → ∀ i, (M j).next ≤ i → i < (M (j + 1)).next → β i = none
  size : a.tmps.size = nt
  defers : a.defers = []
  env : ∀ t, VR β ((curE ops E S t).getD undef) (a.tmps.getD t undef)
  down : ∀ k, S k = true → ∀ i, (bfAt ops k).testBit i = true → S i = true

theorem putE_other {env : Tr Value} {d : Option Tmp} {v : Value} {t : Nat} (h : d ≠ some t) : (putE env d v).get t = env.get t := by
  cases d with
  | none => rfl
  | some d => simp only [putE, Tr.get_put]; rw [if_neg]; intro e; exact h (by rw [e])
theorem putE_same {env : Tr Value} {v : Value} {t : Nat} : (putE env (some t) v).get t = some v := by simp only [putE, Tr.get_put, if_true]

theorem Trace.offE (ht : Trace P gs call ops nt base 0 E M cls val res) {k : Nat} {t : Nat} (hk : k < ops.size) (hT : ¬ ∃ o, ops[k]? = some o ∧ o.dst = some t) : (E (k + 1)).get t = (E k).get t := by
  have hok : ops[k]? = some (ops[k]'hk) := by simp [hk]
  obtain ⟨_, _, hs⟩ := ht.step k _ (Nat.zero_le _) hok
  have hd : (ops[k]'hk).dst ≠ some t := fun h => hT ⟨_, hok, h⟩
  rcases hs with ⟨_, hE, _⟩ | ⟨_, _, hE, _⟩ <;> rw [hE] <;> exact putE_other hd

/-- with every place's change outside the text's length left out of account -/
theorem cur_off {α : Type} {X : Nat → α} {T : Nat → Prop} {S : Nat → Bool} {n : Nat} (hX : ∀ k, k < n → ¬ T k → X (k + 1) = X k) (k : Nat) (hk : k ≤ n) (h : ∀ j, j < n → T j → (S j = true ↔ j < k)) : cur X T S n = X k := by
  have aux : ∀ (Y : Nat → α) (m : Nat), (∀ j, j ≤ m → Y j = X j) → cur Y T S m = cur X T S m := by
    intro Y m
    induction m with
    | zero => intro hY; exact hY 0 (Nat.le_refl _)
    | succ m ih =>
      intro hY
      simp only [cur]
      rw [ih (fun j hj => hY j (by omega)), hY (m + 1) (Nat.le_refl _)]
  have h1 := aux (fun j => X (min j n)) n (fun j hj => by rw [Nat.min_eq_left hj])
  rw [← h1]
  have h2 := cur_at (X := fun j => X (min j n)) (T := T) (S := S) (fun j hT => by
    by_cases hj : j < n
    · simp only [Nat.min_eq_left (show j + 1 ≤ n by omega), Nat.min_eq_left (show j ≤ n by omega)]
      exact hX j hj hT
    · simp only [Nat.min_eq_right (show n ≤ j + 1 by omega), Nat.min_eq_right (show n ≤ j by omega)]) k n hk h
  rw [h2, Nat.min_eq_left hk]

theorem classOf_alloc {call : CallFn} {ρ : Operand → Value} {o : Oper} {fid : Nat} {H H' : AHeap} {v : Value} {c : Class} (h : ClassSays P call ρ o fid H H' v c) (hl : H.log = []) : (∃ w, c = .other false w) ∨ (H'.log = [] ∧ H'.next = H.next) := by
  cases c with
  | pure => obtain ⟨rfl, _⟩ := h; exact .inr ⟨hl, rfl⟩
  | fresh f => obtain ⟨_, ob, rfl, _⟩ := h; exact .inr ⟨hl, rfl⟩
  | load i => obtain ⟨rfl, _⟩ := h; exact .inr ⟨hl, rfl⟩
  | other q w =>
    cases q with
    | false => exact .inl ⟨w, rfl⟩
    | true => exact .inr (h.2 rfl)

theorem Trace.says (ht : Trace P gs call ops nt base 0 E M cls val res) {k : Nat} {o : Oper} (ho : ops[k]? = some o) {c : Class} (hc : cls k = some c) : ClassSays P call (aEval (E k)) o (base + k) (unlog (M k)) (res k) (val k) c ∧ aStep P call (aEval (E k)) o (base + k) (unlog (M k)) = some (val k, res k) := by
  obtain ⟨_, _, hs⟩ := ht.step k o (Nat.zero_le _) ho
  rcases hs with ⟨_, _, _, hcl⟩ | ⟨_, hs, _, _, hcl⟩
  · rw [hc] at hcl; cases hcl
  · rw [hc] at hcl; cases hcl
    exact ⟨class_spec rfl rfl hs, hs⟩

/-- who turns what was there, or makes more than its one, is of the last class -/
theorem Trace.loud (ht : Trace P gs call ops nt base 0 E M cls val res) {k : Nat} (hk : k < ops.size) {i : Nat} (h : cls k ≠ none ∧ (i ∈ (res k).log ∨ ((M k).next ≤ i ∧ i < (M (k + 1)).next))) : ∃ w, cls k = some (.other false w) ∧ (i ∈ (res k).log → i ∈ w) := by
  have hok : ops[k]? = some (ops[k]'hk) := by simp [hk]
  obtain ⟨c, hc⟩ : ∃ c, cls k = some c := by
    cases hcl : cls k with
    | none => exact absurd hcl h.1
    | some c => exact ⟨c, rfl⟩
  obtain ⟨hsay, hstep⟩ := ht.says hok hc
  rcases classOf_alloc hsay rfl with ⟨w, rfl⟩ | ⟨h1, h2⟩
  · exact ⟨w, hc, fun hi => by rw [hsay.1]; exact hi⟩
  · exfalso
    rcases h.2 with h3 | h3
    · rw [h1] at h3; simp at h3
    · obtain ⟨_, _, hs⟩ := ht.step k _ (Nat.zero_le _) hok
      rcases hs with ⟨_, _, _, hcl⟩ | ⟨_, _, _, hH, _⟩
      · rw [hc] at hcl; cases hcl
      · rw [hH] at h3
        have h4 : (res k).next = (M k).next := h2
        have h5 : (relog (res k) (M k).log).next = (res k).next := rfl
        omega

/-- the number of an operation that makes none stays free -/
theorem Trace.idle (hc : CallSound P gs call) (ht : Trace P gs call ops nt base 0 E M cls val res) (hb : base + ops.size ≤ (M 0).next) (hw : WF (M 0)) (h0 : ∀ j, j < ops.size → (M 0).get (base + j) = none) {k : Nat} (hk : k < ops.size) (hs : (M (k + 1)).get (base + k) = none) : ∀ j, k < j → j ≤ ops.size → (M j).get (base + k) = none
  | 0, h, _ => by omega
  | j + 1, hkj, hj => by
    by_cases e : j = k
    · subst e; exact hs
    · have ih := Trace.idle hc ht hb hw h0 hk hs j (by omega) (by omega)
      have hok : ops[j]? = some (ops[j]'(by omega)) := by simp
      obtain ⟨_, _, hst⟩ := ht.step j _ (Nat.zero_le _) hok
      rcases hst with ⟨_, _, hH, _⟩ | ⟨_, hst, _, hH, _⟩
      · rw [hH]; exact ih
      · have hl := step_log hc (show WF (unlog (M j)) from (Trace.facts hc ht hb hw j (by omega)).1) hst
        have hn := (Trace.facts hc ht hb hw j (by omega)).2.1
        rw [hH]
        exact hl.live (base + k) (show base + k < (M j).next by omega) (by omega) ih

theorem clash_out {q r : Bool} {w w' : List Nat} (h : clash (.other q w) (.other r w') = false) : q = true ∧ r = true := by
  simp only [clash, Bool.not_eq_false', Bool.and_eq_true] at h; exact h
theorem clash_load {i : Nat} {q : Bool} {w : List Nat} : (clash (.other q w) (.load i) = false → i ∉ w) ∧ (clash (.load i) (.other q w) = false → i ∉ w) := by
  constructor <;> (intro h hi; simp only [clash] at h; have := List.any_eq_false.1 h i hi; simp at this)
theorem clash_fresh {i : Nat} {q : Bool} {w : List Nat} : (clash (.other q w) (.fresh i) = false → i ∉ w) ∧ (clash (.fresh i) (.other q w) = false → i ∉ w) := by
  constructor <;> (intro h hi; simp only [clash] at h; have := List.any_eq_false.1 h i hi; simp at this)
end
end Go.Proofs.YtdfadipfhcikdaaGreatDoor

namespace Go.Proofs.YtdfadipfhcikdaaGreatDoor
open Go.RowKit

section
variable {P : Program} {gs : List Nat} {call : CallFn} {ops : Array Oper} {nt base : Nat} {E : Nat → Tr Value} {M : Nat → AHeap} {cls : Nat → Option Class} {val : Nat → Value} {res : Nat → AHeap}
  {β0 : Ren} {H0 : AHeap} {w0 : World}

theorem inv_step (hc : CallSound P gs call) (ht : Trace P gs call ops nt base 0 E M cls val res) (hb : base + ops.size ≤ (M 0).next) (hw : WF (M 0)) (h0 : ∀ j, j < ops.size → (M 0).get (base + j) = none) (hord : orderOk ops.toList (Region.before ops).toList = true) (hg0 : GlobOk gs β0)
    {S S' : Nat → Bool} {a : Act} {w : World} {β : Ren} (inv : Inv P gs ops nt base E M cls res β0 H0 w0 S a w β) {k : Nat} {o : Oper} (ho : ops[k]? = some o) (hSk : S k = false) (hpre : ∀ e ∈ o.after, Region.binds .any e = true → S e.on = true) (hS' : ∀ j, S' j = if j = k then true else S j) :
    (Region.wanted o (yielded ops a.tmps) = false → Inv P gs ops nt base E M cls res β0 H0 w0 S' (a.put o.dst undef) w β) ∧
    (Region.wanted o (yielded ops a.tmps) = true → ∀ (K : Act → World → Prop) (Q : Exit → Act → World → Prop), (∀ β' v' w', Inv P gs ops nt base E M cls res β0 H0 w0 S' (a.put o.dst v') w' β' → K (a.put o.dst v') w') → o.wp P a w K Q) := by
  have hk : k < ops.size := (Array.getElem?_eq_some_iff.1 ho).1
  obtain ⟨hedge, hnames⟩ := order_on hord ho
  have factP : ∀ j, (bfAt ops k).testBit j = true → S j = true := fun j hj => by
    obtain ⟨e, h1, h2, h3⟩ := bf_spec ops ho hj
    have h4 := hpre e h1 h2
    rcases h3 with rfl | h3
    · exact h4
    · exact inv.down e.on h4 j h3
  have factQ : ∀ j, S j = true → ¬ (bfAt ops j).testBit k = true := fun j hj hbit => by
    have := inv.down j hj k hbit
    rw [hSk] at this; cases this
  have hSk' : S' k = true := by rw [hS']; simp
  have hSo : ∀ j, j ≠ k → S' j = S j := fun j hj => by rw [hS', if_neg hj]
  -- temporaries
  have henv : ∀ t ∈ namesOf ops.toList o, curE ops E S t = (E k).get t := fun t hn => by
    refine cur_off (fun j hj hT => ht.offE hj hT) k (by omega) fun j hj hT => ?_
    obtain ⟨p, hp, hd⟩ := hT
    rcases hnames t hn j p hp hd with rfl | ⟨h1, h2⟩ | ⟨h1, h2⟩
    · simp [hSk]
    · simp [factP j h2, h1]
    · have : ¬ S j = true := fun hs => factQ j hs h2
      simp [this]; omega
  have hvr : ∀ t ∈ namesOf ops.toList o, VR β (((E k).get t).getD undef) (a.tmps.getD t undef) := fun t hn => by
    have := inv.env t
    rw [henv t hn] at this; exact this
  have hwant : wantedA o ops.toList (E k) = Region.wanted o (yielded ops a.tmps) := wanted_at ops o fun j want t h1 h2 => hvr t (mem_names_guard h1 h2)
  obtain ⟨hdst, hconst, hstep⟩ := ht.step k o (Nat.zero_le _) ho
  have hfacts := fun j (hj : j ≤ ops.size) => Trace.facts hc ht hb hw j hj
  have hnx := fun i j (h1 : i ≤ j) (h2 : j ≤ ops.size) => Trace.next hc ht hb hw i j h1 h2
  -- the frame behind it
  have envAfter : ∀ {β' : Ren} {v v' : Value}, β.le β' → VR β' v v' → E (k + 1) = putE (E k) o.dst v → (a.put o.dst v').tmps.size = nt ∧ (a.put o.dst v').defers = [] ∧ ∀ t, VR β' ((curE ops E S' t).getD undef) ((a.put o.dst v').tmps.getD t undef) := by
    intro β' v v' hle hv hE
    cases hd : o.dst with
    | none =>
      refine ⟨inv.size, inv.defers, fun t => ?_⟩
      have : curE ops E S' t = curE ops E S t := cur_skip _ fun j hj hT => by
        obtain ⟨p, hp, hpd⟩ := hT
        refine hSo j fun e => ?_
        subst e; rw [ho] at hp; cases hp; rw [hd] at hpd; cases hpd
      rw [this]; exact (inv.env t).mono hle
    | some d =>
      have hdn : d < nt := by rw [hd] at hdst; simpa [dstOk, Nat.blt_eq] using hdst
      refine ⟨by simp [Act.put, inv.size], inv.defers, fun t => ?_⟩
      by_cases e : t = d
      · subst e
        have hcl : curE ops E S' t = (E (k + 1)).get t := cur_last hSk' ⟨o, ho, hd⟩ _ hk fun j h1 h2 h3 hT => by
          obtain ⟨p, hp, hpd⟩ := hT
          rw [hSo j (by omega)] at h3
          rcases hnames t (mem_names_dst hd) j p hp hpd with h4 | ⟨h4, _⟩ | ⟨_, h4⟩
          · omega
          · omega
          · exact factQ j h3 h4
        rw [hcl, hE, hd, putE_same]
        simp only [Option.getD_some, Act.put, Array.getD_eq_getD_getElem?]
        rw [Array.getElem?_setIfInBounds_self_of_lt (by rw [inv.size]; exact hdn)]
        exact hv
      · have hcl : curE ops E S' t = curE ops E S t := cur_skip _ fun j hj hT => by
          obtain ⟨p, hp, hpd⟩ := hT
          refine hSo j fun e2 => ?_
          subst e2; rw [ho] at hp; cases hp; rw [hd] at hpd; cases hpd; exact e rfl
        rw [hcl]
        simp only [Act.put, Array.getD_eq_getD_getElem?]
        rw [Array.getElem?_setIfInBounds_ne (Ne.symm e)]
        have := (inv.env t).mono hle
        simpa only [Array.getD_eq_getD_getElem?] using this
  have hdown : ∀ j, S' j = true → ∀ i, (bfAt ops j).testBit i = true → S' i = true := fun j hj i hi => by
    have hup : ∀ i, S i = true → S' i = true := fun i hi => by
      by_cases e : i = k
      · rw [e]; exact hSk'
      · rw [hSo i e]; exact hi
    by_cases e : j = k
    · subst e; exact hup i (factP i hi)
    · rw [hSo j e] at hj; exact hup i (inv.down j hj i hi)
  refine ⟨fun hwf => ?_, fun hwt K Q hK => ?_⟩
  · -- left out
    rw [← hwant] at hwf
    rcases hstep with ⟨_, hE, hH, hcl⟩ | ⟨hw2, _⟩
    · have hcur : curH base M cls res ops.size S' = curH base M cls res ops.size S := by
        funext i
        exact cur_skip _ fun j hj hT => hSo j fun e => by subst e; exact hT.1 hcl
      obtain ⟨e1, e2, e3⟩ := envAfter β.le_refl (vr_undef β) hE
      refine ⟨by rw [hcur]; exact inv.rel, by rw [hcur]; exact inv.far, inv.old, fun j hj hs => ?_, fun j hj hs i => ?_, e1, e2, e3, hdown⟩
      · by_cases e : j = k
        · subst e; rw [hSk'] at hs; cases hs
        · rw [hSo j e] at hs; exact inv.futA j hj hs
      · by_cases e : j = k
        · subst e; rw [hSk'] at hs; cases hs
        · rw [hSo j e] at hs; exact inv.futB j hj hs i
    · rw [hwf] at hw2; cases hw2
  · -- run
    rw [← hwant] at hwt
    rcases hstep with ⟨hw2, _⟩ | ⟨_, hst, hE, hH, hcl⟩
    · rw [hwt] at hw2; cases hw2
    generalize hcdef : zY (aEval (E k)) (base + k) (M k) (res k) o.op = c at hcl
    obtain ⟨hsay, _⟩ := ht.says ho hcl
    have hnoclash1 : ∀ j d, j < k → S j = false → cls j = some d → clash d c = false := fun j d hj hs hd => by
      rcases ht.pair j k d c (Nat.zero_le _) hj hk hd hcl with h1 | h1
      · have := factP j h1; rw [hs] at this; cases this
      · exact h1
    have hnoclash2 : ∀ j d, k < j → j < ops.size → S j = true → cls j = some d → clash c d = false := fun j d hj hjs hs hd => by
      rcases ht.pair k j c d (Nat.zero_le _) hj hjs hcl hd with h1 | h1
      · exact absurd h1 (factQ j hs)
      · exact h1
    have hno : (M k).get (base + k) = none := (hfacts k (by omega)).2.2 k (Nat.le_refl _) (h0 k hk) hk
    have hHget : ∀ i, (M (k + 1)).get i = (res k).get i := fun i => by rw [hH]; rfl
    have hHnext : (M (k + 1)).next = (res k).next := by rw [hH]; rfl
    -- nobody behind it that was run turns what it turns
    have hlast : ∀ i, touch base M cls res k i → curH base M cls res ops.size S' i = (M (k + 1)).get i := fun i hT => by
      refine cur_last hSk' hT _ hk fun j hj hjs hSj hTj => ?_
      rw [hSo j (by omega)] at hSj
      have hbase : base + ops.size ≤ (M k).next := (hfacts k (by omega)).2.1
      have hbasej : base + ops.size ≤ (M j).next := (hfacts j (by omega)).2.1
      have hkj : (M (k + 1)).next ≤ (M j).next := hnx (k + 1) j (by omega) (by omega)
      have hkk : (M k).next ≤ (M (k + 1)).next := hnx k (k + 1) (by omega) (by omega)
      -- j's class, where it is loud
      have loudj : (i ∈ (res j).log ∨ ((M j).next ≤ i ∧ i < (M (j + 1)).next)) → ∃ wj, cls j = some (.other false wj) ∧ (i ∈ (res j).log → i ∈ wj) := fun h => ht.loud hjs ⟨hTj.1, h⟩
      have loudk : (i ∈ (res k).log ∨ ((M k).next ≤ i ∧ i < (M (k + 1)).next)) → ∃ wk, cls k = some (.other false wk) ∧ (i ∈ (res k).log → i ∈ wk) := fun h => ht.loud hk ⟨hT.1, h⟩
      have two : (i ∈ (res k).log ∨ ((M k).next ≤ i ∧ i < (M (k + 1)).next)) → (i ∈ (res j).log ∨ ((M j).next ≤ i ∧ i < (M (j + 1)).next)) → False := fun h1 h2 => by
        obtain ⟨wk, hk1, _⟩ := loudk h1
        obtain ⟨wj, hj1, _⟩ := loudj h2
        rw [hcl] at hk1; cases hk1
        have := (clash_out (hnoclash2 j _ hj hjs hSj hj1)).1
        cases this
      rcases hT.2 with hT1 | hT1 | hT1
      · rcases hTj.2 with h2 | h2 | h2
        · exact two (.inl hT1) (.inl h2)
        · -- i is j's number
          have hl := step_log hc (show WF (unlog (M k)) from (hfacts k (by omega)).1) hst
          rcases hl.logged i hT1 with h3 | h3 | h3 | h3
          · simp [unlog] at h3
          · exact h3 ((hfacts k (by omega)).2.2 j (by omega) (h0 j hjs) hjs ▸ (by rw [h2]; rfl))
          · omega
          · have : (unlog (M k)).next = (M k).next := rfl
            omega
        · exact two (.inl hT1) (.inr h2)
      · rcases hTj.2 with h2 | h2 | h2
        · -- i is k's number, and j notes it
          obtain ⟨wj, hj1, hj2⟩ := loudj (.inl h2)
          have hncl := hnoclash2 j _ hj hjs hSj hj1
          have idle : res k = unlog (M k) → False := fun hres => by
            have hsn : (M (k + 1)).get (base + k) = none := by rw [hHget, hres]; exact hno
            have hidle := Trace.idle hc ht hb hw h0 hk hsn j hj (by omega)
            have hokj : ops[j]? = some (ops[j]'hjs) := by simp [hjs]
            obtain ⟨_, hstj⟩ := ht.says hokj hj1
            rcases (step_log hc (show WF (unlog (M j)) from (hfacts j (by omega)).1) hstj).logged i h2 with h3 | h3 | h3 | h3
            · simp [unlog] at h3
            · exact h3 (by rw [hT1]; exact hidle)
            · omega
            · have : (unlog (M j)).next = (M j).next := rfl
              omega
          cases c with
          | pure => exact idle hsay.1
          | load i' => exact idle hsay.1
          | fresh f =>
            obtain ⟨rfl, _⟩ := hsay
            exact clash_fresh.2 hncl (by rw [← hT1]; exact hj2 h2)
          | other q wq => have := (clash_out hncl).2; cases this
        · omega
        · omega
      · rcases hTj.2 with h2 | h2 | h2
        · exact two (.inr hT1) (.inl h2)
        · omega
        · exact two (.inr hT1) (.inr h2)
    have hoff : ∀ i, ¬ touch base M cls res k i → curH base M cls res ops.size S' i = curH base M cls res ops.size S i := fun i hT =>
      cur_skip _ fun j hj hTj => hSo j fun e => by subst e; exact hT hTj
    -- what it looks at is as it was in the text's order
    have hlook : (∀ q wq, c = .other q wq → ∀ i o' s, (M k).get i = some o' → β i = some s → curH base M cls res ops.size S i = some o') ∧ (∀ i, c = .load i → ∀ o' s, (M k).get i = some o' → β i = some s → curH base M cls res ops.size S i = some o') := by
      have core : ∀ i o' s, (M k).get i = some o' → β i = some s → (∀ j wj, cls j = some (.other false wj) → i ∈ wj ∨ ((M j).next ≤ i ∧ i < (M (j + 1)).next) → (j < k → S j = false → False) ∧ (k < j → j < ops.size → S j = true → i ∈ wj → False)) → curH base M cls res ops.size S i = some o' := by
        intro i o' s hi hs hcore
        refine (cur_off (fun j hj hT => Trace.off hc ht hb hw hj hT) k (by omega) fun j hj hT => ?_).trans hi
        by_cases e : j = k
        · subst e; simp [hSk]
        · rcases Nat.lt_or_ge j k with hjk | hjk
          · refine ⟨fun _ => hjk, fun _ => ?_⟩
            cases hSj : S j with
            | true => rfl
            | false =>
              exfalso
              rcases hT.2 with h2 | h2 | h2
              · obtain ⟨wj, hj1, hj2⟩ := ht.loud hj ⟨hT.1, .inl h2⟩
                exact (hcore j wj hj1 (.inl (hj2 h2))).1 hjk hSj
              · have := inv.futA j hj hSj
                rw [← h2, hs] at this; cases this
              · have := inv.futB j hj hSj i h2.1 h2.2
                rw [hs] at this; cases this
          · refine ⟨fun hSj => ?_, fun h => by omega⟩
            exfalso
            rcases hT.2 with h2 | h2 | h2
            · obtain ⟨wj, hj1, hj2⟩ := ht.loud hj ⟨hT.1, .inl h2⟩
              exact (hcore j wj hj1 (.inl (hj2 h2))).2 (by omega) hj hSj (hj2 h2)
            · have := (hfacts k (by omega)).2.2 j (by omega) (h0 j hj) hj
              rw [← h2, hi] at this; cases this
            · have := (hfacts k (by omega)).1 i (by have := hnx k j (by omega) (by omega); omega)
              rw [hi] at this; cases this
      refine ⟨fun q wq hcq i o' s hi hs => core i o' s hi hs fun j wj hj1 _ => ⟨fun hjk hSj => ?_, fun hkj hjs hSj _ => ?_⟩, fun i0 hc0 o' s hi hs => core i0 o' s hi hs fun j wj hj1 hor => ⟨fun hjk hSj => ?_, fun hkj hjs hSj hmem => ?_⟩⟩
      · have h1 := hnoclash1 j _ hjk hSj hj1
        rw [hcq] at h1
        have := (clash_out h1).1; cases this
      · have h1 := hnoclash2 j _ hkj hjs hSj hj1
        rw [hcq] at h1
        have := (clash_out h1).2; cases this
      · have h1 := hnoclash1 j _ hjk hSj hj1
        rw [hc0] at h1
        rcases hor with h2 | h2
        · exact clash_load.1 h1 h2
        · have := inv.futB j (by omega) hSj i0 h2.1 h2.2
          rw [hs] at this; cases this
      · have h1 := hnoclash2 j _ hkj hjs hSj hj1
        rw [hc0] at h1
        exact clash_load.2 h1 hmem
    -- the part of the memory that the operation is run on
    obtain ⟨Mk, Mk', hrunk, hsub, hnone, hon, hpart, hnew, hnextk, hnextk', hbk, hwfk⟩ : ∃ Mk Mk' : AHeap, aStep P call (aEval (E k)) o (base + k) Mk = some (val k, Mk') ∧
        (∀ i o' s, Mk.get i = some o' → β i = some s → curH base M cls res ops.size S i = some o') ∧ (∀ i, Mk.next ≤ i → β i = none) ∧
        (∀ i, touch base M cls res k i → (M (k + 1)).get i = Mk'.get i) ∧ (∀ i, ¬ touch base M cls res k i → Mk'.get i = Mk.get i) ∧
        (∀ i, Mk.next ≤ i → i < Mk'.next → touch base M cls res k i) ∧ Mk'.next ≤ (M ops.size).next ∧
        (∀ j i, j < ops.size → j ≠ k → (M j).next ≤ i → i < (M (j + 1)).next → i < Mk.next ∨ Mk'.next ≤ i) ∧ base + ops.size ≤ Mk.next ∧ WF Mk := by
      have hN : base + ops.size ≤ (M ops.size).next := (hfacts ops.size (Nat.le_refl _)).2.1
      have small : (res k).log = [] → (res k).next = (M k).next → ∀ i, touch base M cls res k i → i = base + k := fun hl hn i hT => by
        rcases hT.2 with h1 | h1 | h1
        · rw [hl] at h1; simp at h1
        · exact h1
        · rw [hHnext, hn] at h1; omega
      have rangeN : ∀ j i, j < ops.size → (M j).next ≤ i → i < (M (j + 1)).next → i < (M ops.size).next := fun j i hj _ h2 => by
        have := hnx (j + 1) ops.size (by omega) (Nat.le_refl _); omega
      cases c with
      | pure =>
        obtain ⟨hres, hG⟩ := hsay
        refine ⟨⟨.nil, (M ops.size).next, []⟩, ⟨.nil, (M ops.size).next, []⟩, hG _, fun i o' s h => ?_, inv.rel.fresh, fun i hT => ?_, fun _ _ => rfl, fun i h1 h2 => by simp only at h1 h2; omega, Nat.le_refl _, fun j i hj _ h1 h2 => .inl (rangeN j i hj h1 h2), hN, fun i _ => by simp [AHeap.get, Tr.get_nil]⟩
        · simp [AHeap.get, Tr.get_nil] at h
        · have := small (by rw [hres]; rfl) (by rw [hres]; rfl) i hT
          subst this
          rw [hHget, hres]
          exact hno
      | fresh f =>
        obtain ⟨rfl, ob, hres, hG⟩ := hsay
        refine ⟨⟨.nil, (M ops.size).next, []⟩, (⟨.nil, (M ops.size).next, []⟩ : AHeap).add (base + k) ob, hG _, fun i o' s h => ?_, inv.rel.fresh, fun i hT => ?_, fun i hT => ?_, fun i h1 h2 => ?_, Nat.le_refl _, fun j i hj _ h1 h2 => .inl (rangeN j i hj h1 h2), hN, fun i _ => by simp [AHeap.get, Tr.get_nil]⟩
        · simp [AHeap.get, Tr.get_nil] at h
        · have := small (by rw [hres]; rfl) (by rw [hres]; rfl) i hT
          subst this
          rw [hHget, hres, AHeap.get_add, AHeap.get_add, if_pos rfl, if_pos rfl]
        · rw [AHeap.get_add, if_neg]
          intro e; exact hT ⟨by rw [hcl]; simp, .inr (.inl e)⟩
        · simp only [AHeap.add] at h1 h2; omega
      | load i0 =>
        obtain ⟨hres, ob, hob, hG⟩ := hsay
        have hob' : (M k).get i0 = some ob := hob
        have hget : ∀ i, (⟨Tr.nil.put i0 (some ob), (M ops.size).next, []⟩ : AHeap).get i = if i = i0 then some ob else none := fun i => by simp only [AHeap.get, Tr.get_put, Tr.get_nil]
        refine ⟨⟨Tr.nil.put i0 (some ob), (M ops.size).next, []⟩, ⟨Tr.nil.put i0 (some ob), (M ops.size).next, []⟩, hG _ (by rw [hget, if_pos rfl]), fun i o' s h hs => ?_, inv.rel.fresh, fun i hT => ?_, fun _ _ => rfl, fun i h1 h2 => by simp only at h1 h2; omega, Nat.le_refl _, fun j i hj _ h1 h2 => .inl (rangeN j i hj h1 h2), hN, fun i hi => by
          rw [hget, if_neg]
          intro e
          subst e
          have h1 := (hfacts k (by omega)).1 i (by have := hnx k ops.size (by omega) (Nat.le_refl _); simp only at hi; omega)
          rw [hob'] at h1; cases h1⟩
        · rw [hget] at h
          by_cases e : i = i0
          · subst e; rw [if_pos rfl] at h; cases h
            exact hlook.2 i rfl ob s hob' hs
          · rw [if_neg e] at h; cases h
        · have := small (by rw [hres]; rfl) (by rw [hres]; rfl) i hT
          subst this
          rw [hHget, hres, hget, if_neg]
          · exact hno
          · intro e; rw [e, hob'] at hno; cases hno
      | other q wq =>
        refine ⟨unlog (M k), res k, hst, fun i o' s h hs => hlook.1 q wq rfl i o' s h hs, fun i hi => ?_, fun i _ => hHget i, fun i hT => ?_, fun i h1 h2 => ?_, ?_, fun j i hj hjk h1 h2 => ?_, (hfacts k (by omega)).2.1, (hfacts k (by omega)).1⟩
        · -- nothing from here on has been made
          have hi : (M k).next ≤ i := hi
          cases hbi : β i with
          | none => rfl
          | some s =>
            exfalso
            have hiN : i < (M ops.size).next := by
              rcases Nat.lt_or_ge i (M ops.size).next with h1 | h1
              · exact h1
              · have := inv.rel.fresh i h1; rw [hbi] at this; cases this
            -- the operation that made it
            have : ∀ m, k ≤ m → m ≤ ops.size → i < (M m).next → ∃ j, k ≤ j ∧ j < m ∧ (M j).next ≤ i ∧ i < (M (j + 1)).next := by
              intro m
              induction m with
              | zero => intro h1 _ h3; have : k = 0 := by omega
                        subst this; omega
              | succ m ih =>
                intro h1 h2 h3
                by_cases h4 : i < (M m).next
                · by_cases h5 : k ≤ m
                  · obtain ⟨j, j1, j2, j3⟩ := ih h5 (by omega) h4
                    exact ⟨j, j1, by omega, j3⟩
                  · have : k = m + 1 := by omega
                    subst this; omega
                · by_cases h5 : k ≤ m
                  · exact ⟨m, h5, by omega, by omega, h3⟩
                  · have : k = m + 1 := by omega
                    subst this; omega
            obtain ⟨j, hj1, hj2, hj3, hj4⟩ := this ops.size (by omega) (Nat.le_refl _) hiN
            cases hSj : S j with
            | false =>
              have := inv.futB j hj2 hSj i hj3 hj4
              rw [hbi] at this; cases this
            | true =>
              have hjk : k < j := by
                rcases Nat.lt_or_ge k j with h1 | h1
                · exact h1
                · have : j = k := by omega
                  subst this; rw [hSk] at hSj; cases hSj
              have hcj : cls j ≠ none := fun hn => by
                have hokj : ops[j]? = some (ops[j]'hj2) := by simp [hj2]
                obtain ⟨_, _, hs⟩ := ht.step j _ (Nat.zero_le _) hokj
                rcases hs with ⟨_, _, hHj, _⟩ | ⟨_, _, _, _, hcc⟩
                · rw [hHj] at hj4; omega
                · rw [hn] at hcc; cases hcc
              obtain ⟨wj, hw1, _⟩ := ht.loud hj2 ⟨hcj, .inr ⟨hj3, hj4⟩⟩
              have := (clash_out (hnoclash2 j _ hjk hj2 hSj hw1)).2
              cases this
        · rw [← hHget]; exact Trace.off hc ht hb hw hk hT
        · exact ⟨by rw [hcl]; simp, .inr (.inr ⟨h1, by rw [hHnext]; exact h2⟩)⟩
        · rw [← hHnext]; exact hnx (k + 1) ops.size (by omega) (Nat.le_refl _)
        · rcases Nat.lt_or_ge j k with h3 | h3
          · have := hnx (j + 1) k (by omega) (by omega)
            exact .inl (show i < (M k).next by omega)
          · have := hnx (k + 1) j (by omega) (by omega)
            rw [hHnext] at this
            exact .inr (by omega)
    have hrelk : Rel β Mk w := inv.rel.toRel Mk hsub hnone
    have hgb : GlobOk gs β := hg0.mono inv.far.le
    refine step_sound hc hrunk hwfk hrelk hgb (eval_at (fun t htm => hvr t (mem_names_op htm)) hgb hconst) (inv.futA k hk hSk) (by omega) fun β' v' w' q1 q2 q3 => hK β' v' w' ?_
    have st : StepF β (curH base M cls res ops.size S) Mk β' (curH base M cls res ops.size S') Mk' (base + k) (touch base M cls res k) :=
      ⟨hsub, fun i hT => (hlast i hT).trans (hon i hT), hoff, hpart, ⟨by rw [hcl]; simp, .inr (.inl rfl)⟩, hnew, q3⟩
    have hfresh : ∀ i, (M ops.size).next ≤ i → β' i = none := fun i hi => by
      by_cases h1 : i < Mk.next
      · have hN : base + ops.size ≤ (M ops.size).next := (hfacts ops.size (Nat.le_refl _)).2.1
        rw [q3 i (by omega) h1]; exact inv.rel.fresh i hi
      · exact q2.rel.fresh i (by omega)
    obtain ⟨e1, e2, e3⟩ := envAfter q2.le q1 hE
    refine ⟨inv.rel.after st q2 hfresh, inv.far.after st q2, fun i hi => ?_, fun j hj hs => ?_, fun j hj hs i h1 h2 => ?_, e1, e2, e3, hdown⟩
    · rw [q3 i (by omega) (by omega)]; exact inv.old i hi
    · have e : j ≠ k := fun e => by subst e; rw [hSk'] at hs; cases hs
      rw [hSo j e] at hs
      rw [q3 (base + j) (by omega) (by omega)]
      exact inv.futA j hj hs
    · have e : j ≠ k := fun e => by subst e; rw [hSk'] at hs; cases hs
      rw [hSo j e] at hs
      rcases hnextk' j i hj e h1 h2 with h3 | h3
      · have hbj := (hfacts j (by omega)).2.1
        rw [q3 i (by omega) h3]; exact inv.futB j hj hs i h1 h2
      · exact q2.rel.fresh i h3

theorem inv_end (hc : CallSound P gs call) (ht : Trace P gs call ops nt base 0 E M cls val res) (hb : base + ops.size ≤ (M 0).next) (hw : WF (M 0)) {S : Nat → Bool} {a : Act} {w : World} {β : Ren} (inv : Inv P gs ops nt base E M cls res β0 H0 w0 S a w β) (hS : ∀ j, j < ops.size → S j = true) :
    Goes β0 H0 w0 β (M ops.size) w ∧ (∀ i, i < base → β i = β0 i) ∧ EnvRel β (E ops.size) a nt := by
  have hH : ∀ i, curH base M cls res ops.size S i = (M ops.size).get i := fun i => cur_off (fun j hj hT => Trace.off hc ht hb hw hj hT) ops.size (Nat.le_refl _) fun j hj _ => by simp [hS j hj, hj]
  have hE : ∀ t, curE ops E S t = (E ops.size).get t := fun t => cur_off (fun j hj hT => ht.offE hj hT) ops.size (Nat.le_refl _) fun j hj _ => by simp [hS j hj, hj]
  have hr : Rel β (M ops.size) w := inv.rel.toRel _ (fun i o s h _ => by rw [hH]; exact h) inv.rel.fresh
  refine ⟨⟨inv.far.le, hr, inv.far.os, inv.far.tape, inv.far.output, inv.far.size, inv.far.keep, fun b hb2 ⟨i, o, s, h1, h2⟩ => inv.far.own b hb2 ⟨i, o, s, by rw [hH]; exact h1, h2⟩, fun b hb2 ⟨i, o, s, h1, h2⟩ => inv.far.vis b hb2 ⟨i, o, s, by rw [hH]; exact h1, h2⟩⟩, inv.old, ⟨inv.size, inv.defers, fun t => ?_⟩⟩
  rw [← hE]; exact inv.env t

theorem drawn_any (hc : CallSound P gs call) (ht : Trace P gs call ops nt base 0 E M cls val res) (hb : base + ops.size ≤ (M 0).next) (hw : WF (M 0)) (h0 : ∀ j, j < ops.size → (M 0).get (base + j) = none) (hord : orderOk ops.toList (Region.before ops).toList = true) (hg0 : GlobOk gs β0) (Q : Exit → Act → World → Prop)
    (hq : ∀ β a w, Goes β0 H0 w0 β (M ops.size) w → (∀ i, i < base → β i = β0 i) → EnvRel β (E ops.size) a nt → Q .normal a w) :
    ∀ (fuel : Nat) (listed : Array Bool) (a : Act) (w : World) (β : Ren) (U : List Nat), U.length ≤ fuel → (∀ j, j < ops.size → listed.getD j false = false → j ∈ U) → listed.size = ops.size → Inv P gs ops nt base E M cls res β0 H0 w0 (fun j => listed.getD j false) a w β → wpAny P .any ops Q fuel listed a w := by
  have atEnd : ∀ (listed : Array Bool) (a : Act) (w : World) (β : Ren), listed.size = ops.size → Inv P gs ops nt base E M cls res β0 H0 w0 (fun j => listed.getD j false) a w β → Region.ready .any ops listed = [] → Q .normal a w := by
    intro listed a w β hsz inv hr
    have hall : ∀ j, j < ops.size → listed.getD j false = true := by
      intro j
      induction j using Nat.strongRecOn with
      | _ j ih =>
        intro hj
        cases hl : listed.getD j false with
        | true => rfl
        | false =>
          exfalso
          have hok : ops[j]? = some (ops[j]'hj) := by simp [hj]
          have : j ∈ Region.ready .any ops listed := mem_ready.2 ⟨by
            rw [Array.getD_eq_getD_getElem?] at hl ⊢
            have : listed[j]? = some (listed[j]'(by omega)) := by simp [hsz, hj]
            rw [this] at hl ⊢
            exact hl, _, hok, fun e he hbd => by
            have hlt := (order_on hord hok).1 e he hbd
            exact ih e.on hlt (by omega)⟩
          rw [hr] at this; cases this
    obtain ⟨g1, g2, g3⟩ := inv_end hc ht hb hw inv hall
    exact hq β a w g1 g2 g3
  intro fuel
  induction fuel with
  | zero =>
    intro listed a w β U hU hcov hsz inv
    have hU0 : U = [] := List.eq_nil_of_length_eq_zero (by omega)
    subst hU0
    have hr : Region.ready .any ops listed = [] := by
      cases hrr : Region.ready .any ops listed with
      | nil => rfl
      | cons j l =>
        exfalso
        have hmem : j ∈ Region.ready .any ops listed := by rw [hrr]; exact List.mem_cons_self
        obtain ⟨h1, o, ho, _⟩ := mem_ready.1 hmem
        have hj : j < ops.size := (Array.getElem?_eq_some_iff.1 ho).1
        have : listed.getD j false = false := by
          rw [Array.getD_eq_getD_getElem?] at h1 ⊢
          have e : listed[j]? = some (listed[j]'(by omega)) := by simp [hsz, hj]
          rw [e] at h1 ⊢
          exact h1
        have := hcov j hj this
        cases this
    exact ⟨hr, atEnd listed a w β hsz inv hr⟩
  | succ fuel ih =>
    intro listed a w β U hU hcov hsz inv
    refine ⟨atEnd listed a w β hsz inv, fun k hk => ?_⟩
    obtain ⟨h1, o, ho, hall⟩ := mem_ready.1 hk
    have hks : k < ops.size := (Array.getElem?_eq_some_iff.1 ho).1
    have hSk : listed.getD k false = false := by
      rw [Array.getD_eq_getD_getElem?] at h1 ⊢
      have e : listed[k]? = some (listed[k]'(by omega)) := by simp [hsz, hks]
      rw [e] at h1 ⊢
      exact h1
    have hset : ∀ j, (listed.setIfInBounds k true).getD j false = if j = k then true else listed.getD j false := fun j => by
      by_cases e : j = k
      · subst e; rw [if_pos rfl, Array.getD_eq_getD_getElem?, Array.getElem?_setIfInBounds_self_of_lt (by omega)]; rfl
      · rw [if_neg e, getD_set_ne false (Ne.symm e)]
    obtain ⟨s1, s2⟩ := inv_step hc ht hb hw h0 hord hg0 inv ho hSk hall (S' := fun j => (listed.setIfInBounds k true).getD j false) hset
    have hUk : k ∈ U := hcov k hks hSk
    have next : ∀ a' w' β', Inv P gs ops nt base E M cls res β0 H0 w0 (fun j => (listed.setIfInBounds k true).getD j false) a' w' β' → wpAny P .any ops Q fuel (listed.setIfInBounds k true) a' w' := fun a' w' β' inv' => by
      refine ih _ a' w' β' (U.erase k) (by rw [List.length_erase_of_mem hUk]; omega) (fun j hj hl => ?_) (by simpa using hsz) inv'
      rw [hset] at hl
      by_cases e : j = k
      · rw [if_pos e] at hl; cases hl
      · rw [if_neg e] at hl
        exact (List.mem_erase_of_ne e).2 (hcov j hj hl)
    unfold wpOp
    simp only [ho]
    cases hwt : Region.wanted o (yielded ops a.tmps) with
    | true => simp only [if_true]; exact .inl (s2 hwt _ _ fun β' v' w' inv' => next _ w' β' inv')
    | false => simp only [Bool.false_eq_true, if_false]; exact next _ w β (s1 hwt)
end
end Go.Proofs.YtdfadipfhcikdaaGreatDoor

namespace Go.Proofs.YtdfadipfhcikdaaGreatDoor
open Go.RowKit

theorem Trace.logs {P : Program} {gs : List Nat} {call : CallFn} {ops : Array Oper} {nt base : Nat} {E : Nat → Tr Value} {M : Nat → AHeap} {cls : Nat → Option Class} {val : Nat → Value} {res : Nat → AHeap} (hc : CallSound P gs call) (ht : Trace P gs call ops nt base 0 E M cls val res) (hb : base + ops.size ≤ (M 0).next) (hw : WF (M 0)) :
    ∀ k, k ≤ ops.size → LogLe base (M 0) (M k)
  | 0, _ => .refl _ _
  | k + 1, hk => by
    refine (Trace.logs hc ht hb hw k (by omega)).trans ?_
    have hok : ops[k]? = some (ops[k]'(by omega)) := by simp
    have hf := Trace.facts hc ht hb hw k (by omega)
    obtain ⟨_, _, hs⟩ := ht.step k _ (Nat.zero_le _) hok
    rcases hs with ⟨_, _, hH, _⟩ | ⟨_, hs, _, hH, _⟩
    · rw [hH]; exact .refl _ _
    · have hl := step_log hc (show WF (unlog (M k)) from hf.1) hs
      have hlog : ∀ i, i ∈ (M (k + 1)).log ↔ i ∈ (res k).log ∨ i ∈ (M k).log := fun i => by rw [hH]; exact mem_notes i _ _
      have hnx : (unlog (M k)).next = (M k).next := rfl
      refine ⟨fun i hi hn => ?_, fun i hi => (hlog i).2 (.inr hi), ?_, fun i hi hn => ?_, fun hw => ?_, fun i hi => ?_⟩
      · rw [hH]
        exact hl.same i (by omega) (by omega) (fun h => hn ((hlog i).2 (.inl h)))
      · rw [hH]; exact hl.next
      · rw [hH]; exact hl.live i (by omega) (by omega) hn
      · rw [hH]; exact hl.wf (by omega) hw
      · rcases (hlog i).1 hi with h1 | h1
        · rcases hl.logged i h1 with h2 | h2 | h2 | h2
          · simp [unlog] at h2
          · exact .inr (.inl h2)
          · exact .inr (.inr (by omega))
          · exact .inr (.inr (by omega))
        · exact .inl h1

def CodeSound (P : Program) (gs : List Nat) (nt : Nat) (c : Code) (env : Tr Value) (H : AHeap) (ex : Exit) (env' : Tr Value) (H' : AHeap) : Prop :=
  LogLe H.next H H' ∧ ∀ (β : Ren) (a : Act) (w : World), Rel β H w → GlobOk gs β → EnvRel β env a nt → ∀ Q : Exit → Act → World → Prop, (∀ β' a' w', Goes β H w β' H' w' → Ren.agree H.next β β' → EnvRel β' env' a' nt → Q ex a' w') → c.wp P Q a w

theorem widen_log (H : AHeap) (n : Nat) : LogLe H.next H { H with next := H.next + n } :=
  ⟨fun _ _ _ => rfl, fun _ h => h, Nat.le_add_right _ _, fun _ _ h => h, fun hw i hi => hw i (Nat.le_trans (Nat.le_add_right _ n) hi), fun _ h => .inl h⟩
theorem widen_rel {β : Ren} {H : AHeap} {w : World} (h : Rel β H w) (n : Nat) : Rel β { H with next := H.next + n } w :=
  h.less (fun _ _ _ h _ => h) (fun i hi => h.fresh i (Nat.le_trans (Nat.le_add_right _ n) hi))
theorem widen_goes {β β' : Ren} {H H' : AHeap} {w w' : World} {n : Nat} (g : Goes β { H with next := H.next + n } w β' H' w') : Goes β H w β' H' w' :=
  ⟨g.le, g.rel, g.os, g.tape, g.output, g.size, g.keep, g.own, g.vis⟩

theorem aRegion_sound {P : Program} {gs : List Nat} {call : CallFn} (hc : CallSound P gs call) (nt : Nat) (id : Nat) (ops : Array Oper) {env env' : Tr Value} {H H' : AHeap} (h : aOps P gs call ops.toList nt H.next ops.toList 0 env { H with next := H.next + ops.toList.length } = some (env', H')) (hwf : WF H) : CodeSound P gs nt (.region id ops false) env H .normal env' H' := by
  obtain ⟨h1, h2⟩ := aOps_sound hc ops nt H.next ops.toList 0 env _ env' H' (by simp) h (by simp) ((widen_log H _).wf hwf)
  refine ⟨(widen_log H _).trans h1, fun β a w hr hg he Q hq => ?_⟩
  apply wp_region
  rw [List.range_eq_range']
  have := h2 β a w (widen_rel hr _) hg he (fun j _ _ => hr.fresh _ (Nat.le_add_right _ _)) Q (fun β' a' w' q1 q2 q3 => hq β' a' w' (widen_goes q1) q2 q3)
  simpa using this

theorem aDraw_sound {P : Program} {gs : List Nat} {call : CallFn} (hc : CallSound P gs call) (hm : P.follows .mixedOrders = true) (nt : Nat) (id : Nat) (ops : Array Oper) (hord : orderOk ops.toList (Region.before ops).toList = true) {env env' : Tr Value} {H H' : AHeap} (h : aDraw P gs call ops.toList (Region.before ops).toList nt H.next ops.toList 0 env { H with next := H.next + ops.toList.length } [] = some (env', H')) (hwf : WF H) : CodeSound P gs nt (.region id ops true) env H .normal env' H' := by
  obtain ⟨E, M, cls, val, res, e1, e2, e3, e4, ht, _⟩ := draw_trace ops nt H.next ops.toList 0 env _ [] env' H' (Nat.zero_le _) (by simp) (fun p hp => by cases hp) h
  have hb : H.next + ops.size ≤ (M 0).next := by rw [e2]; simp
  have hw : WF (M 0) := by rw [e2]; exact (widen_log H _).wf hwf
  have h0 : ∀ j, j < ops.size → (M 0).get (H.next + j) = none := fun j hj => by rw [e2]; exact hwf _ (Nat.le_add_right _ _)
  have hl := Trace.logs hc ht hb hw ops.size (Nat.le_refl _)
  rw [e2, e4] at hl
  refine ⟨(widen_log H _).trans hl, fun β a w hr hg he Q hq => ?_⟩
  apply wp_region_any hm
  rw [World.drew_eq]
  have hcurH : ∀ i, curH H.next M cls res ops.size (fun j => (Array.replicate ops.size false).getD j false) i = H.get i := fun i => by
    have : curH H.next M cls res ops.size (fun j => (Array.replicate ops.size false).getD j false) i = (M 0).get i := cur_off (fun j hj hT => Trace.off hc ht hb hw hj hT) 0 (Nat.zero_le _) fun j hj _ => by
      simp [Array.getD_eq_getD_getElem?, hj]
    rw [this, e2]; rfl
  have hcurE : ∀ t, curE ops E (fun j => (Array.replicate ops.size false).getD j false) t = env.get t := fun t => by
    have : curE ops E (fun j => (Array.replicate ops.size false).getD j false) t = (E 0).get t := cur_off (fun j hj hT => ht.offE hj hT) 0 (Nat.zero_le _) fun j hj _ => by
      simp [Array.getD_eq_getD_getElem?, hj]
    rw [this, e1]
  have hfun : curH H.next M cls res ops.size (fun j => (Array.replicate ops.size false).getD j false) = H.get := funext hcurH
  have hSf : ∀ j, (Array.replicate ops.size false).getD j false = false := fun j => by
    rw [Array.getD_eq_getD_getElem?, Array.getElem?_replicate]; split <;> rfl
  have hge : ∀ j, j ≤ ops.size → H.next ≤ (M j).next := fun j hj => by
    have := Trace.next hc ht hb hw 0 j (Nat.zero_le _) hj
    omega
  refine drawn_any hc ht hb hw h0 hord hg Q (H0 := H) (w0 := w) (fun β' a' w' q1 q2 q3 => hq β' a' w' (by rw [← e4]; exact q1) q2 (by rw [← e3]; exact q3)) ops.size _ a w.drew β (List.range ops.size) (by simp) (fun j hj _ => by simp [hj]) (by simp) ?_
  refine ⟨?_, ?_, fun _ _ => rfl, fun j _ _ => hr.fresh _ (Nat.le_add_right _ _), fun j hj _ i h1 _ => hr.fresh i (Nat.le_trans (hge j (by omega)) h1), he.size, he.defers, fun t => ?_, fun k hk => ?_⟩
  · rw [hfun]
    exact ⟨fun i o s a b => (hr.obj i o s a b).mono β.le_refl rfl, hr.blk, hr.apart, fun i hi => hr.fresh i (Nat.le_trans (hge _ (Nat.le_refl _)) hi)⟩
  · rw [hfun]
    exact ⟨β.le_refl, rfl, rfl, rfl, Nat.le_refl _, fun _ _ _ => rfl, fun _ _ h => h, fun _ _ h => h⟩
  · rw [hcurE]; exact he.val t
  · simp only [hSf] at hk; cases hk

def exitOf : Way → Exit
  | .on => .normal
  | .out i => .exit i
  | .back => .ret

theorem loop_sound {P : Program} {gs : List Nat} {nt : Nat} {c : Code} {body : Tr Value → AHeap → Option (Way × Tr Value × AHeap)} (hbody : ∀ env H way env' H', body env H = some (way, env', H') → WF H → CodeSound P gs nt c env H (exitOf way) env' H') :
    ∀ (n : Nat) (env : Tr Value) (H : AHeap) (way : Way) (env' : Tr Value) (H' : AHeap), loopN body Way.isOn n env H = some (way, env', H') → WF H →
      LogLe H.next H H' ∧ ∀ (β : Ren) (a : Act) (w : World), Rel β H w → GlobOk gs β → EnvRel β env a nt → ∀ Q : Exit → Act → World → Prop, (∀ β' a' w', Goes β H w β' H' w' → Ren.agree H.next β β' → EnvRel β' env' a' nt → Q (exitOf way) a' w') → Code.rounds P c Q n a w
  | 0, env, H, way, env', H', h, _ => by simp only [loopN] at h; cases h
  | n + 1, env, H, way, env', H', h, hwf => by
    simp only [loopN] at h
    split at h
    · rename_i e env1 H1 hb
      obtain ⟨h1, h2⟩ := hbody env H e env1 H1 hb hwf
      cases e with
      | on =>
        simp only [Way.isOn, cond] at h
        obtain ⟨h3, h4⟩ := loop_sound hbody n env1 H1 way env' H' h (h1.wf hwf)
        refine ⟨h1.trans (h3.mono h1.next), fun β a w hr hg he Q hq => ?_⟩
        rw [rounds_succ]
        refine h2 β a w hr hg he _ fun β1 a1 w1 q1 q2 q3 => ?_
        exact h4 β1 a1 w1 q1.rel (hg.mono q1.le) q3 Q fun β' a' w' r1 r2 r3 => hq β' a' w' (q1.trans r1) (fun i hi => (r2 i (Nat.lt_of_lt_of_le hi h1.next)).trans (q2 i hi)) r3
      | out i =>
        simp only [Way.isOn, cond, Option.some.injEq, Prod.mk.injEq] at h
        obtain ⟨rfl, rfl, rfl⟩ := h
        exact ⟨h1, fun β a w hr hg he Q hq => by rw [rounds_succ]; exact h2 β a w hr hg he _ hq⟩
      | back =>
        simp only [Way.isOn, cond, Option.some.injEq, Prod.mk.injEq] at h
        obtain ⟨rfl, rfl, rfl⟩ := h
        exact ⟨h1, fun β a w hr hg he Q hq => by rw [rounds_succ]; exact h2 β a w hr hg he _ hq⟩
    · cases h

theorem aCode_sound {P : Program} {gs : List Nat} {call : CallFn} (hc : CallSound P gs call) (hm : P.follows .mixedOrders = true) (nt fuel : Nat) (c : Code) : ∀ (env : Tr Value) (H : AHeap) (way : Way) (env' : Tr Value) (H' : AHeap), aCode P gs call nt fuel c env H = some (way, env', H') → WF H → CodeSound P gs nt c env H (exitOf way) env' H' := by
  induction c with
  | skip =>
    intro env H way env' H' h hwf
    simp only [aCode] at h; cases h
    exact ⟨.refl _ _, fun β a w hr hg he Q hq => wp_skip (hq β a w (.refl hr) (fun _ _ => rfl) he)⟩
  | region id ops draw =>
    intro env H way env' H' h hwf
    simp only [aCode] at h
    obtain ⟨r, hr, he⟩ := Option.map_eq_some_iff.1 h
    cases he
    cases draw with
    | false => exact aRegion_sound hc nt id ops hr hwf
    | true =>
      simp only [cond] at hr
      cases ho : orderOk ops.toList (Region.before ops).toList with
      | false => rw [ho] at hr; cases hr
      | true => rw [ho] at hr; exact aDraw_sound hc hm nt id ops ho hr hwf
  | seq x y ihx ihy =>
    intro env H way env' H' h hwf
    simp only [aCode] at h
    split at h
    · rename_i env1 H1 hx
      obtain ⟨h1, h2⟩ := ihx env H .on env1 H1 hx hwf
      obtain ⟨h3, h4⟩ := ihy env1 H1 way env' H' h (h1.wf hwf)
      refine ⟨h1.trans (h3.mono h1.next), fun β a w hr hg he Q hq => wp_seq ?_⟩
      refine h2 β a w hr hg he _ fun β1 a1 w1 q1 q2 q3 => ?_
      exact h4 β1 a1 w1 q1.rel (hg.mono q1.le) q3 Q fun β' a' w' r1 r2 r3 => hq β' a' w' (q1.trans r1) (fun i hi => (r2 i (Nat.lt_of_lt_of_le hi h1.next)).trans (q2 i hi)) r3
    · rename_i r hne
      obtain ⟨h1, h2⟩ := ihx env H way env' H' h hwf
      refine ⟨h1, fun β a w hr hg he Q hq => wp_seq (h2 β a w hr hg he _ fun β' a' w' q1 q2 q3 => ?_)⟩
      cases way with
      | on => exact absurd h (hne _ _)
      | out i => exact hq β' a' w' q1 q2 q3
      | back => exact hq β' a' w' q1 q2 q3
  | cond x a b iha ihb =>
    intro env H way env' H' h hwf
    simp only [aCode] at h
    split at h
    · rename_i t hx
      have hev : ∀ {β : Ren} {ac : Act}, EnvRel β env ac nt → ac.eval x = .bool t := fun {β ac} he => by
        cases x with
        | tmp k =>
          have hv := he.val k
          simp only [aEval] at hx
          rw [hx] at hv
          show ac.tmps.getD k undef = _
          generalize ac.tmps.getD k undef = u at hv
          cases hv; rfl
        | const v => exact hx
        | global g => cases hx
        | func f => cases hx
      cases t with
      | true =>
        obtain ⟨h1, h2⟩ := iha env H way env' H' h hwf
        exact ⟨h1, fun β ac w hr hg he Q hq => wp_cond_true (hev he) (h2 β ac w hr hg he Q hq)⟩
      | false =>
        obtain ⟨h1, h2⟩ := ihb env H way env' H' h hwf
        exact ⟨h1, fun β ac w hr hg he Q hq => wp_cond_false (hev he) (h2 β ac w hr hg he Q hq)⟩
    · cases h
  | block id x ih =>
    intro env H way env' H' h hwf
    simp only [aCode] at h
    split at h
    · rename_i i env1 H1 hx
      obtain ⟨h1, h2⟩ := ih env H (.out i) env1 H1 hx hwf
      cases hb : Nat.beq i id with
      | true =>
        have := Nat.eq_of_beq_eq_true hb; subst this
        rw [hb] at h
        simp only [cond, Option.some.injEq, Prod.mk.injEq] at h
        obtain ⟨rfl, rfl, rfl⟩ := h
        refine ⟨h1, fun β a w hr hg he Q hq => wp_block (h2 β a w hr hg he _ fun β' a' w' q1 q2 q3 => ?_)⟩
        simp only [exitOf, Exit.inBlock, if_true]
        exact hq β' a' w' q1 q2 q3
      | false =>
        have hne := Nat.ne_of_beq_eq_false hb
        rw [hb] at h
        simp only [cond, Option.some.injEq, Prod.mk.injEq] at h
        obtain ⟨rfl, rfl, rfl⟩ := h
        refine ⟨h1, fun β a w hr hg he Q hq => wp_block (h2 β a w hr hg he _ fun β' a' w' q1 q2 q3 => ?_)⟩
        simp only [exitOf, Exit.inBlock, if_neg hne]
        exact hq β' a' w' q1 q2 q3
    · rename_i r hne
      obtain ⟨h1, h2⟩ := ih env H way env' H' h hwf
      refine ⟨h1, fun β a w hr hg he Q hq => wp_block (h2 β a w hr hg he _ fun β' a' w' q1 q2 q3 => ?_)⟩
      cases way with
      | on => exact hq β' a' w' q1 q2 q3
      | out i => exact absurd h (hne _ _ _)
      | back => exact hq β' a' w' q1 q2 q3
  | loop x ih =>
    intro env H way env' H' h hwf
    simp only [aCode] at h
    obtain ⟨h1, h2⟩ := loop_sound (P := P) (gs := gs) (nt := nt) (c := x) ih fuel env H way env' H' h hwf
    exact ⟨h1, fun β a w hr hg he Q hq => wp_loop_rounds fuel (h2 β a w hr hg he Q hq)⟩
  | exit id =>
    intro env H way env' H' h hwf
    simp only [aCode] at h; cases h
    exact ⟨.refl _ _, fun β a w hr hg he Q hq => wp_exit (hq β a w (.refl hr) (fun _ _ => rfl) he)⟩
  | label l =>
    intro env H way env' H' h hwf
    simp only [aCode] at h; cases h
    exact ⟨.refl _ _, fun β a w hr hg he Q hq => wp_label (hq β a w (.refl hr) (fun _ _ => rfl) he)⟩
  | ret =>
    intro env H way env' H' h hwf
    simp only [aCode] at h; cases h
    exact ⟨.refl _ _, fun β a w hr hg he Q hq => wp_ret (hq β a w (.refl hr) (fun _ _ => rfl) he)⟩
  | scope x ih =>
    intro env H way env' H' h hwf
    simp only [aCode] at h
    split at h
    · rename_i env1 H1 hx
      cases h
      obtain ⟨h1, h2⟩ := ih env H .on env' H' hx hwf
      exact ⟨h1, fun β a w hr hg he Q hq => wp_scope_straight (h2 β a w hr hg he _ hq)⟩
    · rename_i env1 H1 hx
      cases h
      obtain ⟨h1, h2⟩ := ih env H .back env' H' hx hwf
      exact ⟨h1, fun β a w hr hg he Q hq => wp_scope_straight (h2 β a w hr hg he _ hq)⟩
    · cases h
  | goto l => intro env H way env' H' h _; simp only [aCode] at h; cases h
  | refuse s => intro env H way env' H' h _; simp only [aCode] at h; cases h
  | rangeFunc f ps a b _ _ => intro env H way env' H' h _; simp only [aCode] at h; cases h
end Go.Proofs.YtdfadipfhcikdaaGreatDoor

namespace Go.Proofs.YtdfadipfhcikdaaGreatDoor
open Go.RowKit

theorem aLoad_run {P : Program} {t : TypeId} {x x' v : Value} {H : AHeap} {β : Ren} {w : World} (h : aLoad P t x H = some v) (hr : Rel β H w) (hx : VR β x x') : ∃ a v', x' = .pointer (some a) ∧ (loadVar t a).run P w = .ok v' w ∧ VR β v v' := by
  have hp : ∃ a, x = .pointer (some a) := by
    unfold aLoad at h
    split at h
    · exact ⟨_, rfl⟩
    · cases h
  obtain ⟨a, rfl⟩ := hp
  have hp' : ∃ a', x' = .pointer (some a') := by cases hx; exact ⟨_, rfl⟩
  obtain ⟨a', rfl⟩ := hp'
  let o : Oper := { dst := none, op := .load t (.tmp 0), type := 0, pos := "", after := #[], guard := none }
  obtain ⟨v', h1, h2⟩ := load_value (P := P) (o := o) (ρ := fun _ => .pointer (some a)) (ρ' := fun _ => .pointer (some a')) rfl h hr hx
  have hrun : (execOp (fun _ => .pointer (some a')) o).run P w = ((loadVar t a').run P w).andThen fun v w => .ok (.value v) w := by
    simp only [execOp, o, Instr.loadAt, Instr.sureAddr, Sem.run_bind, Sem.run_pure, Result.andThen_ok]
  rw [hrun] at h1
  refine ⟨a', v', rfl, ?_, h2⟩
  cases hl : (loadVar t a').run P w with
  | halt e w2 => rw [hl] at h1; cases h1
  | ok u w2 =>
    rw [hl] at h1
    simp only [Result.andThen_ok, Result.ok.injEq, Next.value.injEq] at h1
    rw [h1.1, h1.2]

theorem argsEnv_get : ∀ (vs : List Value) (k : Nat) (env : Tr Value) (t : Nat), (qG vs k env).get t = if k ≤ t ∧ t < k + vs.length then vs[t - k]? else env.get t
  | [], k, env, t => by simp only [qG, List.length_nil, Nat.add_zero]; rw [if_neg (by omega)]
  | v :: vs, k, env, t => by
    simp only [qG]
    rw [argsEnv_get vs (k + 1) _ t, Tr.get_put]
    by_cases e : t = k
    · subst e
      rw [if_neg (by omega), if_pos rfl, if_pos ⟨Nat.le_refl _, by simp⟩]
      simp
    · by_cases h : k + 1 ≤ t ∧ t < k + 1 + vs.length
      · rw [if_pos h, if_pos ⟨by omega, by simp; omega⟩]
        rw [show t - k = (t - (k + 1)) + 1 from by omega]; rfl
      · rw [if_neg h, if_neg e, if_neg (by simp; omega)]

theorem args_rel {β : Ren} {args args' : List Value} (h : ListVR β args args') {nt : Nat} (hn : args.length ≤ nt) : EnvRel β (qG args 0 .nil) { tmps := args'.toArray ++ Array.replicate (nt - args'.toArray.size) undef, defers := [] } nt := by
  refine ⟨by simp [← h.1]; omega, rfl, fun t => ?_⟩
  rw [argsEnv_get]
  simp only [Array.getD_eq_getD_getElem?, Array.getElem?_append, List.size_toArray]
  by_cases ht : t < args.length
  · have ht' : t < args'.length := by rw [← h.1]; exact ht
    rw [if_pos ⟨Nat.zero_le _, by omega⟩, if_pos ht']
    have e1 : args[t - 0]? = some (args[t]) := by simp [ht]
    have e2 : args'.toArray[t]? = some (args'[t]) := by simp [ht']
    rw [e1, e2]
    exact h.2 t _ _ (by simp [ht]) (by simp [ht'])
  · have ht' : ¬ t < args'.length := by rw [← h.1]; exact ht
    rw [if_neg (by omega), if_neg ht', Tr.get_nil]
    rw [Array.getElem?_replicate]
    split <;> exact vr_undef β

theorem results_run {P : Program} {β : Ren} {env : Tr Value} {a : Act} {nt : Nat} {H : AHeap} {w : World} (hr : Rel β H w) (he : EnvRel β env a nt) (g : ResultVar → Sem Value) (hg1 : ∀ t, g (.tmp t) = pure (a.tmps.getD t undef)) (hg2 : ∀ x t, g (.cell x t) = do loadVar t (← asAddr (a.tmps.getD x undef))) : ∀ (rs : List ResultVar) (vs : List Value), aResults P env H rs = some vs → ∃ vs', ListVR β vs vs' ∧ (rs.mapM g).run P w = .ok vs' w
  | [], vs, h => by
    simp only [aResults] at h; cases h
    exact ⟨[], ⟨rfl, fun j x y hx => by simp at hx⟩, by simp⟩
  | .tmp t :: rs, vs, h => by
    simp only [aResults] at h
    split at h
    · rename_i us hus
      cases h
      obtain ⟨vs', h1, h2⟩ := results_run hr he g hg1 hg2 rs us hus
      refine ⟨a.tmps.getD t undef :: vs', ⟨by simp [h1.1], fun j x y hx hy => ?_⟩, ?_⟩
      · cases j with
        | zero => simp only [List.getElem?_cons_zero, Option.some.injEq] at hx hy; subst hx hy; exact he.val t
        | succ j => exact h1.2 j x y hx hy
      · simp only [List.mapM_cons, hg1, Sem.run_bind, Sem.run_pure, Result.andThen_ok]
        rw [h2]; rfl
    · cases h
  | .cell x t :: rs, vs, h => by
    simp only [aResults] at h
    split at h
    · rename_i v us hv hus
      cases h
      obtain ⟨vs', h1, h2⟩ := results_run hr he g hg1 hg2 rs us hus
      obtain ⟨ad, v', e1, e2, e3⟩ := aLoad_run hv hr (he.val x)
      refine ⟨v' :: vs', ⟨by simp [h1.1], fun j x y hx hy => ?_⟩, ?_⟩
      · cases j with
        | zero => simp only [List.getElem?_cons_zero, Option.some.injEq] at hx hy; subst hx hy; exact e3
        | succ j => exact h1.2 j x y hx hy
      · have e4 : (asAddr (a.tmps.getD x undef)).run P w = .ok ad w := by rw [e1]; rfl
        simp only [List.mapM_cons, hg2, Sem.run_bind, e4, Sem.run_pure, Result.andThen_ok, e2]
        rw [h2]; rfl
    · cases h

theorem oneOf_vr {β : Ren} {vs vs' : List Value} (h : ListVR β vs vs') : VR β (oneOf vs) (if h : vs'.toArray.size = 1 then vs'.toArray[0] else .tuple vs'.toArray) := by
  match vs, vs', h with
  | [v], [v'], h => exact h.2 0 v v' rfl rfl
  | [], [], h => exact .tuple rfl (fun j x y hx => by simp at hx)
  | a :: b :: l, a' :: b' :: l', h =>
    rw [dif_neg (by simp)]
    exact .tuple (by simpa using h.1) (fun j x y hx hy => h.2 j x y (by simpa using hx) (by simpa using hy))
  | [], _ :: _, h => have := h.1; simp at this
  | _ :: _, [], h => have := h.1; simp at this
  | [_], _ :: _ :: _, h => have := h.1; simp at this
  | _ :: _ :: _, [_], h => have := h.1; simp at this

theorem call_sound {P : Program} {gs : List Nat} (hm : P.follows .mixedOrders = true) : ∀ n, CallSound P gs (aCall P gs n)
  | 0 => fun f args H v H' h _ => by simp only [aCall] at h; cases h
  | n + 1 => fun f args H v H' h hwf => by
    have hc := call_sound (gs := gs) hm n
    simp only [aCall] at h
    split at h
    · rename_i fn hfn
      split at h
      · rename_i c hbody
        cases hb : Nat.ble args.length fn.ntmps with
        | false => rw [hb] at h; cases h
        | true =>
          rw [hb] at h
          simp only [cond] at h
          rw [Nat.ble_eq] at hb
          obtain ⟨way, env1, H1, vs, hcode, hway, hres, hleave⟩ : ∃ way env1 H1 vs, aCode P gs (aCall P gs n) fn.ntmps n c (qG args 0 .nil) (unlog H) = some (way, env1, H1) ∧ (way = .on ∨ way = .back) ∧ aResults P env1 H1 fn.results.toList = some vs ∧ leave H (oneOf vs) H1 = (v, H') := by
            split at h
            · rename_i env1 H1 hcode
              obtain ⟨vs, h1, h2⟩ := Option.map_eq_some_iff.1 h
              exact ⟨_, env1, H1, vs, hcode, .inl rfl, h1, h2⟩
            · rename_i env1 H1 hcode
              obtain ⟨vs, h1, h2⟩ := Option.map_eq_some_iff.1 h
              exact ⟨_, env1, H1, vs, hcode, .inr rfl, h1, h2⟩
            · cases h
          obtain ⟨hlogs, hsnd⟩ := aCode_sound hc hm fn.ntmps n c _ _ way env1 H1 hcode (show WF (unlog H) from hwf)
          have hlogs : LogLe H.next (unlog H) H1 := hlogs
          have hpost : ∀ (β : Ren) (w : World) (args' : List Value), Rel β H w → GlobOk gs β → ListVR β args args' → ∀ R : Ending → World → Prop, (∀ β' v' w', VR β' (oneOf vs) v' → Goes β H w β' H1 w' → Ren.agree H.next β β' → R (.returned v') w') → Calls P f args'.toArray w R := by
            intro β w args' hr hg hargs R hR
            refine calls_of_wp hfn hbody ?_
            refine hsnd β _ w (show Rel β (unlog H) w from ⟨hr.obj, hr.blk, hr.apart, hr.fresh⟩) hg (args_rel hargs hb) _ fun β' a' w' q1 q2 q3 => ?_
            obtain ⟨vs', r1, r2⟩ := results_run q1.rel q3 (fun
              | .tmp t => pure (a'.tmps.getD t undef)
              | .cell a t => do loadVar t (← asAddr (a'.tmps.getD a undef))) (fun _ => rfl) (fun _ _ => rfl) fn.results.toList vs hres
            have hrun : (results fn a'.tmps).run P w' = .ok (if h : vs'.toArray.size = 1 then vs'.toArray[0] else .tuple vs'.toArray) w' := by
              unfold results
              rw [Array.mapM_eq_mapM_toList]
              simp only [Sem.run_bind, Sem.run_map]
              refine Eq.trans (congrArg (fun r => (Result.andThen (Result.andThen r fun a w => .ok (List.toArray a) w) fun a w' => (pure (if h : a.size = 1 then a[0] else Value.tuple a) : Sem Value).run P w')) r2) rfl
            have hdone : bodyPost P fn R .normal a' w' := ⟨q3.defers, _, hrun, hR β' _ w' (oneOf_vr r1) ⟨q1.le, q1.rel, q1.os, q1.tape, q1.output, q1.size, q1.keep, q1.own, q1.vis⟩ q2⟩
            rcases hway with rfl | rfl
            · exact hdone
            · exact hdone
          unfold leave at hleave
          cases hq : (H1.log.all (fun i => Nat.ble H.next i) && lowV H.next (oneOf vs)) with
          | true =>
            rw [hq] at hleave
            simp only [cond, Prod.mk.injEq] at hleave
            obtain ⟨rfl, rfl⟩ := hleave
            rw [Bool.and_eq_true] at hq
            refine ⟨.refl _ _, fun β w args' hr hg hargs => hpost β w args' hr hg hargs _ fun β' v' w' q1 q2 q3 => ?_⟩
            refine ⟨v', β, rfl, lowV_vr q3 hq.2 q1, ?_, fun _ _ => rfl⟩
            refine q2.forget hr fun i o hi hs => ?_
            obtain ⟨s, hs⟩ := hs
            have hlt : i < H.next := by
              rcases Nat.lt_or_ge i H.next with h1 | h1
              · exact h1
              · rw [hr.fresh i h1] at hs; cases hs
            rw [hlogs.same i hlt fun hm2 => ?_]
            · exact hi
            · have := List.all_eq_true.1 hq.1 i hm2
              rw [Nat.ble_eq] at this; omega
          | false =>
            rw [hq] at hleave
            simp only [cond, Prod.mk.injEq] at hleave
            obtain ⟨rfl, rfl⟩ := hleave
            have hmem : ∀ i, i ∈ (H1.log.filter fun i => Nat.blt i H.next).foldl (fun l i => noteId i l) H.log ↔ (i ∈ H1.log ∧ i < H.next) ∨ i ∈ H.log := fun i => by
              rw [mem_notes, List.mem_filter, Nat.blt_eq]
            refine ⟨⟨fun i hi hn => ?_, fun i hi => (hmem i).2 (.inr hi), hlogs.next, hlogs.live, hlogs.wf, fun i hi => ?_⟩, fun β w args' hr hg hargs => hpost β w args' hr hg hargs _ fun β' v' w' q1 q2 q3 => ?_⟩
            · exact hlogs.same i hi fun h1 => hn ((hmem i).2 (.inl ⟨h1, hi⟩))
            · rcases (hmem i).1 hi with h1 | h1
              · rcases hlogs.logged i h1.1 with h2 | h2 | h2
                · simp [unlog] at h2
                · exact .inr (.inl h2)
                · exact .inr (.inr h2)
              · exact .inl h1
            · exact ⟨v', β', rfl, q1, ⟨q2.le, ⟨q2.rel.obj, q2.rel.blk, q2.rel.apart, q2.rel.fresh⟩, q2.os, q2.tape, q2.output, q2.size, q2.keep, q2.own, q2.vis⟩, q3⟩
      · cases h
    · cases h

/-- nothing is there -/
def emptyH : AHeap := { objs := .nil, next := 0, log := [] }
theorem emptyH_wf : WF emptyH := fun i _ => by simp [emptyH, AHeap.get, Tr.get_nil]
theorem emptyH_rel (w : World) : Rel (fun _ => none) emptyH w := ⟨fun i o s h => (by simp [emptyH, AHeap.get, Tr.get_nil] at h), fun i s h => (by cases h), fun i j oi oj si sj h => (by simp [emptyH, AHeap.get, Tr.get_nil] at h), fun _ _ => rfl⟩

def okTrue (r : Option (Value × AHeap)) : Bool := match r with
  | some (.bool true, _) => true
  | _ => false
/-- a function of flat arguments that the abstract machine answers by true: the model answers true in whatever world, and leaves what was there -/
theorem true_of_am {P : Program} (hm : P.follows .mixedOrders = true) (n : Nat) (f : FuncId) (args : List Value) (hf : args.all flat = true) (h : okTrue (aCall P [] n f args emptyH) = true) (w : World) : Calls P f args.toArray w fun e w' => e = .returned (.bool true) ∧ Below w.heap.size w w' := by
  unfold okTrue at h
  split at h
  · rename_i H' hr
    obtain ⟨_, hs⟩ := call_sound (gs := []) hm n f args emptyH (.bool true) H' hr emptyH_wf
    refine (hs _ w args (emptyH_rel w) (fun g hg => (by cases hg)) ⟨rfl, fun j x y hx hy => ?_⟩).mono fun e w' hh => ?_
    · rw [hx] at hy; cases hy
      exact (flat_vr (List.all_eq_true.1 hf x (List.mem_of_getElem? hx)) _).1
    · obtain ⟨v', β', rfl, h1, h2, _⟩ := hh
      cases h1
      exact ⟨rfl, h2.below (fun i s hi => (by cases hi))⟩
  · cases h
end Go.Proofs.YtdfadipfhcikdaaGreatDoor

namespace Go.Proofs.YtdfadipfhcikdaaGreatDoor
open Go.RowKit

/-- a function's code, its calls answered so -/
def stepCall (P : Program) (gs : List Nat) (call : CallFn) (n : Nat) : CallFn := fun f args H => match P.funcs[f]? with
    | some fn => match fn.body with
      | some c => cond (Nat.ble args.length fn.ntmps) (match aCode P gs call fn.ntmps n c (qG args 0 .nil) { H with log := [] } with
        | some (.on, env, H') | some (.back, env, H') => (aResults P env H' fn.results.toList).map fun vs => leave H (oneOf vs) H'
        | _ => none) none
      | none => none
    | none => none
theorem fn_sound {P : Program} {gs : List Nat} {call : CallFn} (hc : CallSound P gs call) (hm : P.follows .mixedOrders = true) (n : Nat) : CallSound P gs (stepCall P gs call n) := fun f args H v H' h hwf => by
    simp only [stepCall] at h
    split at h
    · rename_i fn hfn
      split at h
      · rename_i c hbody
        cases hb : Nat.ble args.length fn.ntmps with
        | false => rw [hb] at h; cases h
        | true =>
          rw [hb] at h
          simp only [cond] at h
          rw [Nat.ble_eq] at hb
          obtain ⟨way, env1, H1, vs, hcode, hway, hres, hleave⟩ : ∃ way env1 H1 vs, aCode P gs (call) fn.ntmps n c (qG args 0 .nil) (unlog H) = some (way, env1, H1) ∧ (way = .on ∨ way = .back) ∧ aResults P env1 H1 fn.results.toList = some vs ∧ leave H (oneOf vs) H1 = (v, H') := by
            split at h
            · rename_i env1 H1 hcode
              obtain ⟨vs, h1, h2⟩ := Option.map_eq_some_iff.1 h
              exact ⟨_, env1, H1, vs, hcode, .inl rfl, h1, h2⟩
            · rename_i env1 H1 hcode
              obtain ⟨vs, h1, h2⟩ := Option.map_eq_some_iff.1 h
              exact ⟨_, env1, H1, vs, hcode, .inr rfl, h1, h2⟩
            · cases h
          obtain ⟨hlogs, hsnd⟩ := aCode_sound hc hm fn.ntmps n c _ _ way env1 H1 hcode (show WF (unlog H) from hwf)
          have hlogs : LogLe H.next (unlog H) H1 := hlogs
          have hpost : ∀ (β : Ren) (w : World) (args' : List Value), Rel β H w → GlobOk gs β → ListVR β args args' → ∀ R : Ending → World → Prop, (∀ β' v' w', VR β' (oneOf vs) v' → Goes β H w β' H1 w' → Ren.agree H.next β β' → R (.returned v') w') → Calls P f args'.toArray w R := by
            intro β w args' hr hg hargs R hR
            refine calls_of_wp hfn hbody ?_
            refine hsnd β _ w (show Rel β (unlog H) w from ⟨hr.obj, hr.blk, hr.apart, hr.fresh⟩) hg (args_rel hargs hb) _ fun β' a' w' q1 q2 q3 => ?_
            obtain ⟨vs', r1, r2⟩ := results_run q1.rel q3 (fun
              | .tmp t => pure (a'.tmps.getD t undef)
              | .cell a t => do loadVar t (← asAddr (a'.tmps.getD a undef))) (fun _ => rfl) (fun _ _ => rfl) fn.results.toList vs hres
            have hrun : (results fn a'.tmps).run P w' = .ok (if h : vs'.toArray.size = 1 then vs'.toArray[0] else .tuple vs'.toArray) w' := by
              unfold results
              rw [Array.mapM_eq_mapM_toList]
              simp only [Sem.run_bind, Sem.run_map]
              refine Eq.trans (congrArg (fun r => (Result.andThen (Result.andThen r fun a w => .ok (List.toArray a) w) fun a w' => (pure (if h : a.size = 1 then a[0] else Value.tuple a) : Sem Value).run P w')) r2) rfl
            have hdone : bodyPost P fn R .normal a' w' := ⟨q3.defers, _, hrun, hR β' _ w' (oneOf_vr r1) ⟨q1.le, q1.rel, q1.os, q1.tape, q1.output, q1.size, q1.keep, q1.own, q1.vis⟩ q2⟩
            rcases hway with rfl | rfl
            · exact hdone
            · exact hdone
          unfold leave at hleave
          cases hq : (H1.log.all (fun i => Nat.ble H.next i) && lowV H.next (oneOf vs)) with
          | true =>
            rw [hq] at hleave
            simp only [cond, Prod.mk.injEq] at hleave
            obtain ⟨rfl, rfl⟩ := hleave
            rw [Bool.and_eq_true] at hq
            refine ⟨.refl _ _, fun β w args' hr hg hargs => hpost β w args' hr hg hargs _ fun β' v' w' q1 q2 q3 => ?_⟩
            refine ⟨v', β, rfl, lowV_vr q3 hq.2 q1, ?_, fun _ _ => rfl⟩
            refine q2.forget hr fun i o hi hs => ?_
            obtain ⟨s, hs⟩ := hs
            have hlt : i < H.next := by
              rcases Nat.lt_or_ge i H.next with h1 | h1
              · exact h1
              · rw [hr.fresh i h1] at hs; cases hs
            rw [hlogs.same i hlt fun hm2 => ?_]
            · exact hi
            · have := List.all_eq_true.1 hq.1 i hm2
              rw [Nat.ble_eq] at this; omega
          | false =>
            rw [hq] at hleave
            simp only [cond, Prod.mk.injEq] at hleave
            obtain ⟨rfl, rfl⟩ := hleave
            have hmem : ∀ i, i ∈ (H1.log.filter fun i => Nat.blt i H.next).foldl (fun l i => noteId i l) H.log ↔ (i ∈ H1.log ∧ i < H.next) ∨ i ∈ H.log := fun i => by
              rw [mem_notes, List.mem_filter, Nat.blt_eq]
            refine ⟨⟨fun i hi hn => ?_, fun i hi => (hmem i).2 (.inr hi), hlogs.next, hlogs.live, hlogs.wf, fun i hi => ?_⟩, fun β w args' hr hg hargs => hpost β w args' hr hg hargs _ fun β' v' w' q1 q2 q3 => ?_⟩
            · exact hlogs.same i hi fun h1 => hn ((hmem i).2 (.inl ⟨h1, hi⟩))
            · rcases (hmem i).1 hi with h1 | h1
              · rcases hlogs.logged i h1.1 with h2 | h2 | h2
                · simp [unlog] at h2
                · exact .inr (.inl h2)
                · exact .inr (.inr h2)
              · exact .inl h1
            · exact ⟨v', β', rfl, q1, ⟨q2.le, ⟨q2.rel.obj, q2.rel.blk, q2.rel.apart, q2.rel.fresh⟩, q2.os, q2.tape, q2.output, q2.size, q2.keep, q2.own, q2.vis⟩, q3⟩
      · cases h
    · cases h


/-- what is given: for a function its answers -/
abbrev Helps := FuncId → Option (List Value → AHeap → Option (Value × AHeap))
def helpFn (O : Helps) : CallFn := fun f args H => match O f with
  | some g => g args H
  | none => none
def oCall (P : Program) (gs : List Nat) (O : Helps) : Nat → CallFn
  | 0 => fun _ _ _ => none
  | n + 1 => fun f args H => match O f with
    | some g => g args H
    | none => stepCall P gs (oCall P gs O n) n f args H
theorem oCall_sound {P : Program} {gs : List Nat} {O : Helps} (ho : CallSound P gs (helpFn O)) (hm : P.follows .mixedOrders = true) : ∀ n, CallSound P gs (oCall P gs O n)
  | 0 => fun f args H v H' h _ => by simp only [oCall] at h; cases h
  | n + 1 => fun f args H v H' h hwf => by
    simp only [oCall] at h
    split at h
    · rename_i g hg
      exact ho f args H v H' (by simp only [helpFn, hg]; exact h) hwf
    · exact fn_sound (oCall_sound ho hm n) hm n f args H v H' h hwf
def noHelp : Helps := fun _ => none
theorem noHelp_sound (P : Program) (gs : List Nat) : CallSound P gs (helpFn noHelp) := fun f args H v H' h _ => by simp only [helpFn, noHelp] at h; cases h

/-- one function that answers flat values, and leaves all as it was, whatever is there -/
def flatHelp (f : FuncId) (v : Value) : Helps := fun g => cond (Nat.beq g f) (some fun args H => cond args.isEmpty (some (v, H)) none) none
theorem flatHelp_sound {P : Program} {gs : List Nat} {f : FuncId} {v : Value} (hf : flat v = true) (h : ∀ w, Calls P f #[] w fun e w' => e = .returned v ∧ Below w.heap.size w w') : CallSound P gs (helpFn (flatHelp f v)) := fun g args H u H' hh hwf => by
  simp only [helpFn, flatHelp] at hh
  cases hg : Nat.beq g f with
  | false => rw [hg] at hh; cases hh
  | true =>
    have hg := Nat.eq_of_beq_eq_true hg
    subst hg
    simp only [Nat.beq_refl, cond] at hh
    cases args with
    | cons => cases hh
    | nil =>
      simp only [List.isEmpty_nil, Option.some.injEq, Prod.mk.injEq] at hh
      obtain ⟨rfl, rfl⟩ := hh
      refine ⟨?_, fun β w args' hr hglob hargs => ?_⟩
      · exact LogLe.refl _ _
      · have he : args' = [] := List.eq_nil_of_length_eq_zero hargs.1.symm
        subst he
        refine (h w).mono fun e w' ⟨h1, h2⟩ => ⟨v, β, h1, (flat_vr hf β).1, ?_, fun _ _ => rfl⟩
        exact ⟨β.le_refl, ⟨fun i o s a b => (hr.obj i o s a b).mono β.le_refl (h2.block _ (hr.blk i s b)), fun i s b => Nat.lt_of_lt_of_le (hr.blk i s b) h2.size, hr.apart, hr.fresh⟩, h2.os, h2.tape, h2.output, h2.size, fun b hb _ => h2.block b hb, fun _ _ h => h, fun _ _ h => h⟩
end Go.Proofs.YtdfadipfhcikdaaGreatDoor

namespace Go.Proofs.YtdfadipfhcikdaaGreatDoor
open Go.RowKit

def rOps (P : Program) (call : CallFn) (all : List Oper) (base : Nat) : List Oper → Nat → Tr Value → AHeap → Option (Tr Value × AHeap)
  | [], _, env, H => some (env, H)
  | o :: os, k, env, H => cond (wantedA o all env) (match aStep P call (aEval env) o (base + k) H with
      | some (v, H') => rOps P call all base os (k + 1) (putE env o.dst v) H'
      | none => none) (rOps P call all base os (k + 1) (putE env o.dst undef) H)
def rDraw (P : Program) (call : CallFn) (all : List Oper) (bf : List Nat) (base : Nat) : List Oper → Nat → Tr Value → AHeap → List (Nat × Class) → Option (Tr Value × AHeap)
  | [], _, env, H, _ => some (env, H)
  | o :: os, k, env, H, cs => cond (wantedA o all env) (match aStep P call (aEval env) o (base + k) { H with log := [] } with
      | some (v, H') =>
        let c := zY (aEval env) (base + k) H H' o.op
        let b := (bf[k]?).getD 0
        cond (cs.any fun p => !b.testBit p.1 && clash p.2 c) none (rDraw P call all bf base os (k + 1) (putE env o.dst v) { H' with log := H'.log.foldl (fun l i => noteId i l) H.log } ((k, c) :: cs))
      | none => none) (rDraw P call all bf base os (k + 1) (putE env o.dst undef) H cs)

def rCode (P : Program) (call : CallFn) (fuel : Nat) : Code → Tr Value → AHeap → Option (Way × Tr Value × AHeap)
  | .skip, env, H => some (.on, env, H)
  | .region _ ops draw, env, H =>
    (cond draw (rDraw P call ops.toList (Region.before ops).toList H.next ops.toList 0 env { H with next := H.next + ops.toList.length } []) (rOps P call ops.toList H.next ops.toList 0 env { H with next := H.next + ops.toList.length })).map fun (env', H') => (.on, env', H')
  | .seq a b, env, H => match rCode P call fuel a env H with
    | some (.on, env', H') => rCode P call fuel b env' H'
    | r => r
  | .cond c a b, env, H => match aEval env c with
    | .bool t => cond t (rCode P call fuel a env H) (rCode P call fuel b env H)
    | _ => none
  | .block id c, env, H => match rCode P call fuel c env H with
    | some (.out i, env', H') => cond (Nat.beq i id) (some (.on, env', H')) (some (.out i, env', H'))
    | r => r
  | .loop c, env, H => loopN (rCode P call fuel c) Way.isOn fuel env H
  | .exit id, env, H => some (.out id, env, H)
  | .label _, env, H => some (.on, env, H)
  | .ret, env, H => some (.back, env, H)
  | .scope c, env, H => match rCode P call fuel c env H with
    | some (.on, env', H') => some (.on, env', H')
    | some (.back, env', H') => some (.back, env', H')
    | _ => none
  | _, _, _ => none

def chkOps (gs : List Nat) (nt : Nat) (ops : List Oper) : Bool := ops.all fun o => dstOk nt o.dst && constsOk gs o
def chk (gs : List Nat) (nt : Nat) : Code → Bool
  | .region _ ops draw => chkOps gs nt ops.toList && (!draw || orderOk ops.toList (Region.before ops).toList)
  | .seq a b | .cond _ a b => chk gs nt a && chk gs nt b
  | .block _ c | .loop c | .scope c => chk gs nt c
  | _ => true

theorem rOps_eq {P : Program} {gs : List Nat} {call : CallFn} {all : List Oper} {nt base : Nat} : ∀ (os : List Oper) (k : Nat) (env : Tr Value) (H : AHeap), chkOps gs nt os = true →
    aOps P gs call all nt base os k env H = rOps P call all base os k env H
  | [], _, _, _, _ => rfl
  | o :: os, k, env, H, h => by
    unfold chkOps at h
    rw [List.all_cons, Bool.and_eq_true] at h
    simp only [aOps, rOps, h.1, cond]
    cases wantedA o all env with
    | false => exact rOps_eq os _ _ _ h.2
    | true => cases aStep P call (aEval env) o (base + k) H with
      | none => rfl
      | some r => exact rOps_eq os _ _ _ h.2
theorem rDraw_eq {P : Program} {gs : List Nat} {call : CallFn} {all : List Oper} {bf : List Nat} {nt base : Nat} : ∀ (os : List Oper) (k : Nat) (env : Tr Value) (H : AHeap) (cs : List (Nat × Class)), chkOps gs nt os = true →
    aDraw P gs call all bf nt base os k env H cs = rDraw P call all bf base os k env H cs
  | [], _, _, _, _, _ => rfl
  | o :: os, k, env, H, cs, h => by
    unfold chkOps at h
    rw [List.all_cons, Bool.and_eq_true] at h
    simp only [aDraw, rDraw, h.1, cond]
    cases wantedA o all env with
    | false => exact rDraw_eq os _ _ _ _ h.2
    | true => cases aStep P call (aEval env) o (base + k) { H with log := [] } with
      | none => rfl
      | some r =>
        simp only
        cases cs.any fun p => !((bf[k]?).getD 0).testBit p.1 && clash p.2 (zY (aEval env) (base + k) H r.2 o.op) with
        | true => rfl
        | false => exact rDraw_eq os _ _ _ _ h.2

theorem rCode_eq {P : Program} {gs : List Nat} {call : CallFn} {nt fuel : Nat} : ∀ (c : Code) (env : Tr Value) (H : AHeap), chk gs nt c = true → aCode P gs call nt fuel c env H = rCode P call fuel c env H
  | .skip, env, H, h => rfl
  | .exit _, env, H, h => rfl
  | .label _, env, H, h => rfl
  | .ret, env, H, h => rfl
  | .region _ ops draw, env, H, h => by
    simp only [chk, Bool.and_eq_true, Bool.or_eq_true, Bool.not_eq_true'] at h
    simp only [aCode, rCode]
    cases draw with
    | false => simp only [cond]; rw [rOps_eq _ _ _ _ h.1]
    | true =>
      have ho : orderOk ops.toList (Region.before ops).toList = true := h.2.resolve_left (fun e => by cases e)
      simp only [cond, ho]
      rw [rDraw_eq _ _ _ _ _ h.1]
  | .seq a b, env, H, h => by
    simp only [chk, Bool.and_eq_true] at h
    simp only [aCode, rCode]
    rw [rCode_eq a env H h.1]
    cases rCode P call fuel a env H with
    | none => rfl
    | some r =>
      obtain ⟨w, e, h1⟩ := r
      cases w with
      | on => exact rCode_eq b e h1 h.2
      | _ => rfl
  | .cond c a b, env, H, h => by
    simp only [chk, Bool.and_eq_true] at h
    simp only [aCode, rCode]
    rw [rCode_eq a env H h.1, rCode_eq b env H h.2]
    rfl
  | .block id c, env, H, h => by
    simp only [chk] at h
    simp only [aCode, rCode]
    rw [rCode_eq c env H h]
    rfl
  | .loop c, env, H, h => by
    simp only [chk] at h
    simp only [aCode, rCode]
    rw [show aCode P gs call nt fuel c = rCode P call fuel c from funext fun e => funext fun h1 => rCode_eq c e h1 h]
  | .scope c, env, H, h => by
    simp only [chk] at h
    simp only [aCode, rCode]
    rw [rCode_eq c env H h]
    rfl
  | .rangeFunc .., env, H, h => rfl
  | .goto _, env, H, h => rfl
  | .refuse _, env, H, h => rfl

/-- a function's code may be run without the checks -/
def chkFn (P : Program) (gs : List Nat) (f : FuncId) : Bool := match P.funcs[f]? with
  | some fn => match fn.body with
    | some c => chk gs fn.ntmps c
    | none => false
  | none => false
def fnOut (P : Program) (rs : List ResultVar) (H : AHeap) : Option (Way × Tr Value × AHeap) → Option (Value × AHeap)
  | some (.on, env, H') | some (.back, env, H') => (aResults P env H' rs).map fun vs => leave H (oneOf vs) H'
  | _ => none
theorem oCall_eq {P : Program} {gs : List Nat} {O : Helps} {f : FuncId} {fn : Func} {c : Code} (ho : O f = none) (hf : P.funcs[f]? = some fn) (hc : fn.body = some c) (hk : chkFn P gs f = true) (n : Nat) (args : List Value) (hl : Nat.ble args.length fn.ntmps = true) (H : AHeap) :
    oCall P gs O (n + 1) f args H = fnOut P fn.results.toList H (rCode P (oCall P gs O n) n c (qG args 0 .nil) { H with log := [] }) := by
  unfold chkFn at hk
  simp only [hf, hc] at hk
  simp only [oCall, ho, stepCall, hf, hc, hl, cond]
  rw [rCode_eq c _ _ hk]
  rfl
end Go.Proofs.YtdfadipfhcikdaaGreatDoor
