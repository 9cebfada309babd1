/- The abstract machine's one operation does what the model's does; what it notes that it has turned. -/
import Derived.Test.YtmflapajjghpmaaAmRun
namespace Go.Proofs.Ytmflapajjghpmaa
open Go.RowKit

theorem arr1 {α : Type} {a : Array α} {x : α} (h : a.toList = [x]) : a = #[x] := by rw [← Array.toArray_toList (xs := a), h]
theorem arr2 {α : Type} {a : Array α} {x y : α} (h : a.toList = [x, y]) : a = #[x, y] := by rw [← Array.toArray_toList (xs := a), h]

theorem map_pair {α : Type} {x : Option α} {f : α → Value × AHeap} {r : Value × AHeap} (h : x.map f = some r) : ∃ a, x = some a ∧ f a = r := Option.map_eq_some_iff.1 h

theorem aSimple_fits {P : Program} {ρ : Operand → Value} {o : Oper} {fid : Nat} {H H' : AHeap} {v : Value} (h : aSimple P ρ o fid H = some (v, H')) : Fits P o ρ fid H v H' := by
  have pureCase : ∀ {v : Value} {H' : AHeap}, (aPure P ρ o).map (fun v => (v, H)) = some (v, H') → Fits P o ρ fid H v H' := fun h => by
    obtain ⟨a, ha, he⟩ := map_pair h
    cases he
    exact fits_pure ha fid H
  unfold aSimple at h
  split at h
  · rename_i x ho; cases h; exact fits_move (.inl ho) fid H
  · rename_i x ho; cases h; exact fits_move (.inr ho) fid H
  · rename_i c x y ho
    split at h
    · rename_i t hc
      have := fits_pick (P := P) ho hc fid H
      cases t <;> (cases h; exact this)
    · cases h
  · rename_i t ho
    split at h
    · rename_i inf hi
      split at h
      · rename_i z hz
        cases hf : flat2 z with
        | false => rw [hf] at h; cases h
        | true => rw [hf] at h; cases h; exact fits_alloc ho hi hz hf fid H
      · cases h
    · cases h
  · rename_i t x ho; cases h; exact fits_box ho fid H
  · rename_i t ps ho
    obtain ⟨a, ha, he⟩ := map_pair h; cases he
    exact fits_build ho ha fid H
  · rename_i t n ps ho; exact fits_buildSlice ho fid H h
  · rename_i t x ho
    obtain ⟨a, ha, he⟩ := map_pair h; cases he
    exact fits_load ho fid H ha
  · rename_i t x y ho
    obtain ⟨a, ha, he⟩ := map_pair h; cases he
    exact fits_store ho fid H ha
  · rename_i x ho
    split at h
    · rename_i a hx; cases h; exact fits_nilCheck ho hx fid H
    · rename_i f a c hx; cases h; exact fits_nilCheckF ho hx fid H
    · cases h
  · rename_i t x f ho
    split at h
    · rename_i cs fs hx ht
      split at h
      · rename_i fd hf
        obtain ⟨a, ha, he⟩ := map_pair h; cases he
        exact fits_field ho hx ht hf ha fid H
      · cases h
    · cases h
  · rename_i x k ho
    split at h
    · rename_i vs hx
      obtain ⟨a, ha, he⟩ := map_pair h; cases he
      exact fits_extract ho hx ha fid H
    · cases h
  · rename_i t x ix ho
    split at h
    · rename_i cs k i n el hx hix ht
      split at h
      · rename_i inf hi
        cases hb : Nat.blt i n with
        | false => rw [hb] at h; cases h
        | true =>
          rw [hb] at h
          obtain ⟨a, ha, he⟩ := map_pair h; cases he
          exact fits_indexArr ho hx hix ht hb hi ha fid H
      · cases h
    · exact pureCase h
  · rename_i fn a c ho; cases h; exact fits_makeFunc ho fid H
  · rename_i t x ho
    split at h
    · cases h
    · rename_i d hd hne
      cases h
      exact fits_makeIface ho hne (by cases d <;> first | rfl | exact (hd _ rfl).elim) fid H
    · cases h
  · rename_i t ho; cases h; exact fits_makeMap ho fid H
  · rename_i t l c ho; exact fits_makeSlice ho fid H h
  · rename_i t x f ho
    split at h
    · rename_i i p fs hx ht
      split at h
      · rename_i fd hf
        split at h
        · rename_i inf hi
          cases hb : Nat.beq inf.size 0 with
          | true => rw [hb] at h; cases h
          | false => rw [hb] at h; cases h; exact fits_fieldAddr ho hx ht hf hi hb fid H
        · cases h
      · cases h
    · cases h
  · rename_i t x ix ho
    split at h
    · rename_i i p n c k j el hx hix ht
      split at h
      · rename_i inf hi
        cases hb : Nat.blt j n with
        | false => rw [hb] at h; cases h
        | true => rw [hb] at h; cases h; exact fits_indexAddr ho hx hix ht hi hb fid H
      · cases h
    · rename_i i p k j n el hx hix ht
      split at h
      · rename_i inf hi
        cases hb : Nat.blt j n with
        | false => rw [hb] at h; cases h
        | true => rw [hb] at h; cases h; exact fits_indexAddrArr ho hx hix ht hi hb fid H
      · cases h
    · cases h
  · rename_i t x lo hi mx ho
    split at h
    · obtain ⟨a, ha, he⟩ := map_pair h; cases he
      exact fits_slice ho fid H ha
    · exact pureCase h
  · rename_i t x k ok ho
    obtain ⟨a, ha, he⟩ := map_pair h; cases he
    exact fits_lookup ho fid H ha
  · rename_i t x k y ho
    obtain ⟨a, ha, he⟩ := map_pair h; cases he
    exact fits_mapUpdate (.inl ho) fid H ha
  · rename_i t x k y ho
    obtain ⟨a, ha, he⟩ := map_pair h; cases he
    exact fits_mapUpdate (.inr ho) fid H ha
  · rename_i op t x y u ho
    split at h
    · rename_i a ha; cases h; exact fits_pure ha fid H
    · obtain ⟨a, ha, he⟩ := map_pair h; cases he
      exact fits_nilEq ho fid H ha
  · rename_i args tys ho
    split at h
    · rename_i x y t u ha ht
      have := arr2 ha; subst this
      have := arr2 ht; subst this
      cases hz : elemZeroOk P t with
      | false => rw [hz] at h; cases h
      | true =>
        rw [hz] at h
        exact fits_append ho fid H (fun el hel => by unfold elemZeroOk at hz; rw [hel] at hz; exact hz) h
    · cases h
  · rename_i args tys ho
    split at h
    · rename_i x t ha ht
      have := arr1 ha; subst this
      have := arr1 ht; subst this
      split at h
      · rename_i a ha2; cases h; exact fits_len ho fid H ha2
      · exact pureCase h
    · cases h
  · rename_i args tys ho
    split at h
    · rename_i x k t u ha ht
      have := arr2 ha; subst this
      have := arr2 ht; subst this
      obtain ⟨a, ha, he⟩ := map_pair h; cases he
      exact fits_delete ho fid H ha
    · cases h
  · rename_i args tys ho
    split at h
    · rename_i x t ha ht
      have := arr1 ha; subst this
      have := arr1 ht; subst this
      split at h
      · rename_i d hd
        obtain ⟨a, ha, he⟩ := map_pair h; cases he
        exact fits_clear ho hd fid H ha
      · cases h
    · cases h
  · rename_i args tys ho
    split at h
    · rename_i x y t u ha ht
      have := arr2 ha; subst this
      have := arr2 ht; subst this
      exact fits_copy ho fid H h
    · cases h
  · exact pureCase h
  · rename_i src dst x ho
    split at h
    · obtain ⟨a, ha, he⟩ := map_pair h; cases he
      exact fits_toString ho fid H ha
    · exact pureCase h
  · exact pureCase h
  · exact pureCase h
  · exact pureCase h
  · cases h

/-! ### what is noted -/
/-- nothing lies from the next number on -/
def WF (H : AHeap) : Prop := ∀ i, H.next ≤ i → H.get i = none
/-- of the numbers below b those alone were turned that the log names -/
structure LogLe (b : Nat) (H H' : AHeap) : Prop where
  same : ∀ i, i < b → i ∉ H'.log → H'.get i = H.get i
  log : ∀ i, i ∈ H.log → i ∈ H'.log
  next : H.next ≤ H'.next
  live : ∀ i, i < b → H.get i = none → H'.get i = none
  wf : WF H → WF H'
  logged : ∀ i, i ∈ H'.log → i ∈ H.log ∨ H.get i ≠ none ∨ b ≤ i
theorem LogLe.refl (b : Nat) (H : AHeap) : LogLe b H H := ⟨fun _ _ _ => rfl, fun _ h => h, Nat.le_refl _, fun _ _ h => h, fun h => h, fun _ h => .inl h⟩
theorem LogLe.trans {b : Nat} {H H1 H2 : AHeap} (h : LogLe b H H1) (k : LogLe b H1 H2) : LogLe b H H2 :=
  ⟨fun i hi hn => (k.same i hi hn).trans (h.same i hi fun hm => hn (k.log i hm)), fun i hi => k.log i (h.log i hi), Nat.le_trans h.next k.next, fun i hi hn => k.live i hi (h.live i hi hn), fun hw => k.wf (h.wf hw), fun i hi => by
    rcases k.logged i hi with h1 | h1 | h1
    · exact h.logged i h1
    · by_cases hb : i < b
      · exact .inr (.inl fun h2 => h1 (h.live i hb h2))
      · exact .inr (.inr (by omega))
    · exact .inr (.inr h1)⟩
theorem LogLe.mono {b b' : Nat} {H H' : AHeap} (h : LogLe b H H') (hb : b' ≤ b) : LogLe b' H H' := ⟨fun i hi => h.same i (Nat.lt_of_lt_of_le hi hb), h.log, h.next, fun i hi => h.live i (Nat.lt_of_lt_of_le hi hb), h.wf, fun i hi => (h.logged i hi).imp id fun h1 => h1.imp id fun h2 => Nat.le_trans hb h2⟩

theorem mem_note (i j : Nat) (l : List Nat) : j ∈ noteId i l ↔ j = i ∨ j ∈ l := by
  unfold noteId
  cases h : l.any (Nat.beq i) with
  | true =>
    obtain ⟨x, hx, he⟩ := List.any_eq_true.1 h
    have := Nat.eq_of_beq_eq_true he
    subst this
    simp only [cond]
    constructor
    · exact .inr
    · rintro (rfl | h)
      · exact hx
      · exact h
  | false => simp only [cond, List.mem_cons]
theorem mem_notes (j : Nat) : ∀ (l m : List Nat), j ∈ l.foldl (fun m i => noteId i m) m ↔ j ∈ l ∨ j ∈ m
  | [], m => by simp
  | x :: l, m => by
    rw [List.foldl_cons, mem_notes j l, mem_note, List.mem_cons]
    constructor
    · rintro (h | h | h)
      · exact .inl (.inr h)
      · exact .inl (.inl h)
      · exact .inr h
    · rintro ((h | h) | h)
      · exact .inr (.inl h)
      · exact .inl h
      · exact .inr (.inr h)

/-- the same for one operation, that may make the number fid -/
structure LogOne (fid : Nat) (H H' : AHeap) : Prop where
  same : ∀ i, i ≠ fid → i ∉ H'.log → H'.get i = H.get i
  log : ∀ i, i ∈ H.log → i ∈ H'.log
  next : H'.next = H.next
theorem LogOne.refl (fid : Nat) (H : AHeap) : LogOne fid H H := ⟨fun _ _ _ => rfl, fun _ h => h, rfl⟩
theorem LogOne.upd (fid : Nat) (H : AHeap) (i : Nat) (o : Option AObj) : LogOne fid H (H.upd i o) :=
  ⟨fun j _ hl => by
    have hl : j ∉ noteId i H.log := hl
    rw [AHeap.get_upd, if_neg]
    intro e; exact hl ((mem_note i j H.log).2 (.inl e)), fun j hj => (mem_note i j H.log).2 (.inr hj), rfl⟩
theorem LogOne.add (fid : Nat) (H : AHeap) (o : AObj) : LogOne fid H (H.add fid o) :=
  ⟨fun j hj _ => by rw [AHeap.get_add, if_neg hj], fun _ h => h, rfl⟩
theorem LogOne.trans {fid : Nat} {H H1 H2 : AHeap} (h : LogOne fid H H1) (k : LogOne fid H1 H2) : LogOne fid H H2 :=
  ⟨fun i hi hn => (k.same i hi hn).trans (h.same i hi fun hm => hn (k.log i hm)), fun i hi => k.log i (h.log i hi), k.next.trans h.next⟩
theorem storeCells_log (fid i : Nat) (elem : TypeId) (esz : Nat) : ∀ (vs cells : List Value) (o : Nat) (H H' : AHeap), aStoreCells i elem esz H cells o vs = some H' → LogOne fid H H'
  | [], cells, o, H, H', h => by simp only [aStoreCells] at h; cases h; exact .refl _ _
  | v :: vs, cells, o, H, H', h => by
    simp only [aStoreCells] at h
    cases hc : (Nat.blt o cells.length && oneV v) with
    | false => rw [hc] at h; cases h
    | true =>
      rw [hc] at h
      exact (LogOne.upd fid H i _).trans (storeCells_log fid i elem esz vs _ _ _ H' h)
theorem newRow_log (fid : Nat) (cells : List Value) (elem : TypeId) (esz : Nat) (H : AHeap) : LogOne fid H (newRowA fid cells elem esz H) := LogOne.add fid H _

theorem aBuildSlice_log {P : Program} {ρ : Operand → Value} {t : TypeId} {n : Nat} {ps : Array (Nat × Operand)} {fid : Nat} {H : AHeap} {r : Value × AHeap} (h : aBuildSlice P ρ t n ps fid H = some r) : LogOne fid H r.2 := by
  unfold aBuildSlice at h
  simp only [Bool.cond_eq_ite] at h
  (repeat' split at h) <;> first | (cases h; done) | (cases h; exact newRow_log ..)
theorem aMakeSlice_log {P : Program} {t : TypeId} {l c : Value} {fid : Nat} {H : AHeap} {r : Value × AHeap} (h : aMakeSlice P t l c fid H = some r) : LogOne fid H r.2 := by
  unfold aMakeSlice at h
  simp only [Bool.cond_eq_ite] at h
  (repeat' split at h) <;> first | (cases h; done) | (cases h; exact newRow_log ..)
theorem aStore_log {P : Program} {t : TypeId} {x v : Value} {fid : Nat} {H H' : AHeap} (h : aStore P t x v H = some H') : LogOne fid H H' := by
  unfold aStore at h
  simp only [Bool.cond_eq_ite] at h
  (repeat' split at h) <;> first | (cases h; done) | exact storeCells_log _ _ _ _ _ _ _ _ _ h
theorem aMapUpdate_log {P : Program} {t : TypeId} {x k v : Value} {fid : Nat} {H H' : AHeap} (h : aMapUpdate P t x k v H = some H') : LogOne fid H H' := by
  unfold aMapUpdate at h
  simp only [Bool.cond_eq_ite] at h
  (repeat' split at h) <;> first | (cases h; done) | (cases h; exact LogOne.upd ..)
theorem aDelete_log {P : Program} {t : TypeId} {x k : Value} {fid : Nat} {H H' : AHeap} (h : aDelete P t x k H = some H') : LogOne fid H H' := by
  unfold aDelete at h
  simp only [Bool.cond_eq_ite] at h
  (repeat' split at h) <;> first | (cases h; done) | (cases h; exact LogOne.refl ..) | (cases h; exact LogOne.upd ..)
theorem aClear_log {P : Program} {t : TypeId} {x : Value} {fid : Nat} {H H' : AHeap} (h : aClear P t x H = some H') : LogOne fid H H' := by
  unfold aClear at h
  simp only [Bool.cond_eq_ite] at h
  (repeat' split at h) <;> first | (cases h; done) | exact storeCells_log _ _ _ _ _ _ _ _ _ h | (cases h; exact LogOne.refl ..) | (cases h; exact LogOne.upd ..)
theorem aCopy_log {P : Program} {t : TypeId} {x y : Value} {fid : Nat} {H : AHeap} {r : Value × AHeap} (h : aCopy P t x y H = some r) : LogOne fid H r.2 := by
  unfold aCopy at h
  simp only [Bool.cond_eq_ite] at h
  (repeat' split at h) <;> first | (cases h; done) | (obtain ⟨a, ha, he⟩ := Option.map_eq_some_iff.1 h; cases he; exact storeCells_log _ _ _ _ _ _ _ _ _ ha) | (cases h; exact LogOne.refl ..)
theorem aAppend_log {P : Program} {t u : TypeId} {s x : Value} {fid : Nat} {H : AHeap} {r : Value × AHeap} (h : aAppend P t u s x fid H = some r) : LogOne fid H r.2 := by
  unfold aAppend at h
  simp only [Bool.cond_eq_ite] at h
  (repeat' split at h) <;> first | (cases h; done) | (obtain ⟨a, ha, he⟩ := Option.map_eq_some_iff.1 h; cases he; exact storeCells_log _ _ _ _ _ _ _ _ _ ha) | (cases h; exact LogOne.refl ..) | (cases h; exact newRow_log ..) | (cases h; exact (LogOne.upd _ _ _ _).trans (LogOne.add _ _ _))
theorem aSimple_log {P : Program} {ρ : Operand → Value} {o : Oper} {fid : Nat} {H H' : AHeap} {v : Value} (h : aSimple P ρ o fid H = some (v, H')) : LogOne fid H H' := by
  have pureCase : ∀ {x : Option Value} {v : Value} {H' : AHeap}, x.map (fun v => (v, H)) = some (v, H') → LogOne fid H H' := fun h => by
    obtain ⟨a, ha, he⟩ := map_pair h
    cases he
    exact .refl _ _
  have turnCase : ∀ {x : Option AHeap} {v : Value} {H' : AHeap}, x.map (fun H' => (undef, H')) = some (v, H') → x = some H' := fun h => by
    obtain ⟨a, ha, he⟩ := map_pair h
    cases he
    exact ha
  unfold aSimple at h
  simp only [Bool.cond_eq_ite] at h
  (repeat' split at h) <;> first
    | (cases h; done)
    | exact pureCase h
    | exact aBuildSlice_log h
    | exact aMakeSlice_log h
    | exact aAppend_log h
    | exact aCopy_log h
    | exact aStore_log (turnCase h)
    | exact aMapUpdate_log (turnCase h)
    | exact aDelete_log (turnCase h)
    | exact aClear_log (turnCase h)
    | (cases h; exact LogOne.refl ..)
    | (cases h; exact newRow_log ..)
    | (cases h; exact LogOne.add ..)

/-- nothing comes back -/
structure LiveOne (fid : Nat) (H H' : AHeap) : Prop where
  live : ∀ i, i ≠ fid → H.get i = none → H'.get i = none
  logged : ∀ i, i ∈ H'.log → i ∈ H.log ∨ H.get i ≠ none ∨ i = fid
theorem LiveOne.refl (fid : Nat) (H : AHeap) : LiveOne fid H H := ⟨fun _ _ h => h, fun _ h => .inl h⟩
theorem LiveOne.trans {fid : Nat} {H H1 H2 : AHeap} (h : LiveOne fid H H1) (k : LiveOne fid H1 H2) : LiveOne fid H H2 := ⟨fun i hi hn => k.live i hi (h.live i hi hn), fun i hi => by
    rcases k.logged i hi with h1 | h1 | h1
    · exact h.logged i h1
    · by_cases hf : i = fid
      · exact .inr (.inr hf)
      · exact .inr (.inl fun h2 => h1 (h.live i hf h2))
    · exact .inr (.inr h1)⟩
theorem LiveOne.upd (fid : Nat) {H : AHeap} {i : Nat} {o : AObj} (h : H.get i = some o) (o' : Option AObj) : LiveOne fid H (H.upd i o') := by
  refine ⟨fun j _ hn => ?_, fun j hj => ?_⟩
  · rw [AHeap.get_upd]
    by_cases e : j = i
    · subst e; rw [h] at hn; cases hn
    · rw [if_neg e]; exact hn
  · rcases (mem_note i j H.log).1 hj with rfl | h1
    · exact .inr (.inl (by rw [h]; simp))
    · exact .inl h1
theorem LiveOne.add (fid : Nat) (H : AHeap) (o : AObj) : LiveOne fid H (H.add fid o) := ⟨fun j hj hn => by rw [AHeap.get_add, if_neg hj]; exact hn, fun _ h => .inl h⟩
theorem storeCells_live (fid i : Nat) (elem : TypeId) (esz : Nat) : ∀ (vs cells : List Value) (o : Nat) (H H' : AHeap) (x : AObj), H.get i = some x → aStoreCells i elem esz H cells o vs = some H' → LiveOne fid H H'
  | [], cells, o, H, H', x, _, h => by simp only [aStoreCells] at h; cases h; exact .refl _ _
  | v :: vs, cells, o, H, H', x, hx, h => by
    simp only [aStoreCells] at h
    cases hc : (Nat.blt o cells.length && oneV v) with
    | false => rw [hc] at h; cases h
    | true =>
      rw [hc] at h
      exact (LiveOne.upd fid hx _).trans (storeCells_live fid i elem esz vs _ _ _ H' _ (by rw [AHeap.get_upd, if_pos rfl]) h)
theorem newRow_live (fid : Nat) (cells : List Value) (elem : TypeId) (esz : Nat) (H : AHeap) : LiveOne fid H (newRowA fid cells elem esz H) := LiveOne.add fid H _
theorem aBuildSlice_live {P : Program} {ρ : Operand → Value} {t : TypeId} {n : Nat} {ps : Array (Nat × Operand)} {fid : Nat} {H : AHeap} {r : Value × AHeap} (h : aBuildSlice P ρ t n ps fid H = some r) : LiveOne fid H r.2 := by
  unfold aBuildSlice at h
  simp only [Bool.cond_eq_ite] at h
  (repeat' split at h) <;> first | (cases h; done) | (cases h; exact newRow_live ..)
theorem aMakeSlice_live {P : Program} {t : TypeId} {l c : Value} {fid : Nat} {H : AHeap} {r : Value × AHeap} (h : aMakeSlice P t l c fid H = some r) : LiveOne fid H r.2 := by
  unfold aMakeSlice at h
  simp only [Bool.cond_eq_ite] at h
  (repeat' split at h) <;> first | (cases h; done) | (cases h; exact newRow_live ..)
theorem aStore_live {P : Program} {t : TypeId} {x v : Value} {fid : Nat} {H H' : AHeap} (h : aStore P t x v H = some H') : LiveOne fid H H' := by
  unfold aStore at h
  simp only [Bool.cond_eq_ite] at h
  (repeat' split at h) <;> first | (cases h; done) | exact storeCells_live _ _ _ _ _ _ _ _ _ _ (by assumption) h
theorem aMapUpdate_live {P : Program} {t : TypeId} {x k v : Value} {fid : Nat} {H H' : AHeap} (h : aMapUpdate P t x k v H = some H') : LiveOne fid H H' := by
  unfold aMapUpdate at h
  simp only [Bool.cond_eq_ite] at h
  (repeat' split at h) <;> first | (cases h; done) | (cases h; exact LiveOne.upd _ (by assumption) _)
theorem aDelete_live {P : Program} {t : TypeId} {x k : Value} {fid : Nat} {H H' : AHeap} (h : aDelete P t x k H = some H') : LiveOne fid H H' := by
  unfold aDelete at h
  simp only [Bool.cond_eq_ite] at h
  (repeat' split at h) <;> first | (cases h; done) | (cases h; exact LiveOne.refl ..) | (cases h; exact LiveOne.upd _ (by assumption) _)
theorem aClear_live {P : Program} {t : TypeId} {x : Value} {fid : Nat} {H H' : AHeap} (h : aClear P t x H = some H') : LiveOne fid H H' := by
  unfold aClear at h
  simp only [Bool.cond_eq_ite] at h
  (repeat' split at h) <;> first | (cases h; done) | exact storeCells_live _ _ _ _ _ _ _ _ _ _ (by assumption) h | (cases h; exact LiveOne.refl ..) | (cases h; exact LiveOne.upd _ (by assumption) _)
theorem aCopy_live {P : Program} {t : TypeId} {x y : Value} {fid : Nat} {H : AHeap} {r : Value × AHeap} (h : aCopy P t x y H = some r) : LiveOne fid H r.2 := by
  unfold aCopy at h
  simp only [Bool.cond_eq_ite] at h
  (repeat' split at h) <;> first | (cases h; done) | (obtain ⟨a, ha, he⟩ := Option.map_eq_some_iff.1 h; cases he; exact storeCells_live _ _ _ _ _ _ _ _ _ _ (by assumption) ha) | (cases h; exact LiveOne.refl ..)
theorem aAppend_live {P : Program} {t u : TypeId} {s x : Value} {fid : Nat} {H : AHeap} {r : Value × AHeap} (h : aAppend P t u s x fid H = some r) : LiveOne fid H r.2 := by
  unfold aAppend at h
  simp only [Bool.cond_eq_ite] at h
  (repeat' split at h) <;> first | (cases h; done) | (obtain ⟨a, ha, he⟩ := Option.map_eq_some_iff.1 h; cases he; exact storeCells_live _ _ _ _ _ _ _ _ _ _ (by assumption) ha) | (cases h; exact LiveOne.refl ..) | (cases h; exact newRow_live ..) | (cases h; exact (LiveOne.upd _ (by assumption) none).trans (LiveOne.add _ _ _))
theorem aSimple_live {P : Program} {ρ : Operand → Value} {o : Oper} {fid : Nat} {H H' : AHeap} {v : Value} (h : aSimple P ρ o fid H = some (v, H')) : LiveOne fid H H' := by
  have pureCase : ∀ {x : Option Value} {v : Value} {H' : AHeap}, x.map (fun v => (v, H)) = some (v, H') → LiveOne fid H H' := fun h => by
    obtain ⟨a, ha, he⟩ := map_pair h
    cases he
    exact .refl _ _
  have turnCase : ∀ {x : Option AHeap} {v : Value} {H' : AHeap}, x.map (fun H' => (undef, H')) = some (v, H') → x = some H' := fun h => by
    obtain ⟨a, ha, he⟩ := map_pair h
    cases he
    exact ha
  unfold aSimple at h
  simp only [Bool.cond_eq_ite] at h
  (repeat' split at h) <;> first
    | (cases h; done)
    | exact pureCase h
    | exact aBuildSlice_live h
    | exact aMakeSlice_live h
    | exact aAppend_live h
    | exact aCopy_live h
    | exact aStore_live (turnCase h)
    | exact aMapUpdate_live (turnCase h)
    | exact aDelete_live (turnCase h)
    | exact aClear_live (turnCase h)
    | (cases h; exact LiveOne.refl ..)
    | (cases h; exact newRow_live ..)
    | (cases h; exact LiveOne.add ..)
end Go.Proofs.Ytmflapajjghpmaa
