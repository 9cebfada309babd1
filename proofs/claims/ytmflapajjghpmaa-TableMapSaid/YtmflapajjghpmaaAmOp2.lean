/- The abstract machine's operations on memory: variables, loads, stores, new blocks. -/
import Derived.Test.YtmflapajjghpmaaAmOp1
namespace Go.Proofs.Ytmflapajjghpmaa
open Go.RowKit

/-- the model's cells for an abstract row's piece -/
theorem piece_vr {β : Ren} {w : World} {b s0 : Nat} : ∀ (cs : List Value) (o : Nat), (∀ j v, cs[j]? = some v → ∃ v', w.cell? ⟨b, s0 + (o + j), none⟩ = some v' ∧ VR β v v') →
    ∃ cs' : List Value, cs'.length = cs.length ∧ (∀ j v', cs'[j]? = some v' → w.cell? ⟨b, s0 + (o + j), none⟩ = some v') ∧ ∀ (j : Nat) (x y : Value), cs[j]? = some x → cs'[j]? = some y → VR β x y
  | [], _, _ => ⟨[], rfl, fun j v h => by simp at h, fun j x y h => by simp at h⟩
  | c :: cs, o, h => by
    obtain ⟨c', hc, hr⟩ := h 0 c rfl
    obtain ⟨cs', h1, h2, h3⟩ := piece_vr cs (o + 1) fun j v hj => by
      have := h (j + 1) v hj
      rwa [show o + (j + 1) = o + 1 + j from by omega] at this
    refine ⟨c' :: cs', by simp [h1], fun j v' hj => ?_, fun j x y hx hy => ?_⟩
    · cases j with
      | zero => simp at hj; subst hj; exact hc
      | succ j => have := h2 j v' hj; rwa [show o + 1 + j = o + (j + 1) from by omega] at this
    · cases j with
      | zero => simp at hx hy; subst hx hy; exact hr
      | succ j => exact h3 j x y hx hy

/-- n cells of a row from a place on -/
def cut (cells : List Value) (o n : Nat) : Option (List Value) :=
  let l := (cells.drop o).take n
  cond (Nat.beq l.length n) (some l) none
theorem cut_some {cells l : List Value} {o n : Nat} (h : cut cells o n = some l) : l.length = n ∧ ∀ j v, l[j]? = some v → cells[o + j]? = some v := by
  unfold cut at h
  cases hb : Nat.beq ((cells.drop o).take n).length n with
  | false => simp only [hb, cond] at h; cases h
  | true =>
    simp only [hb, cond, Option.some.injEq] at h
    have hb' := Nat.eq_of_beq_eq_true hb
    subst h
    refine ⟨hb', fun j v hj => ?_⟩
    have hjn : j < n := by have := (List.getElem?_eq_some_iff.1 hj).1; omega
    rw [List.getElem?_take_of_lt hjn, List.getElem?_drop] at hj
    exact hj

theorem rel_piece {β : Ren} {H : AHeap} {w : World} (hr : Rel β H w) {i o n : Nat} {s : Spot} {cells l : List Value} {elem : TypeId} {esz : Nat} {own : Bool} (hi : H.get i = some (.row cells elem esz own)) (hs : β i = some s) (hl : cut cells o n = some l) :
    ∃ l' : List Value, l'.length = n ∧ l.length = n ∧ (∀ j v', l'[j]? = some v' → w.cell? ((⟨s.blk, s.shift + o, none⟩ : Addr).add j) = some v') ∧ ∀ (j : Nat) (x y : Value), l[j]? = some x → l'[j]? = some y → VR β x y := by
  obtain ⟨_, h2, _⟩ := hr.obj _ _ _ hi hs
  obtain ⟨hn, hc⟩ := cut_some hl
  obtain ⟨l', h3, h4, h5⟩ := piece_vr (β := β) (w := w) (b := s.blk) (s0 := s.shift) l o fun j v hj => h2 (o + j) v (hc j v hj)
  exact ⟨l', by omega, hn, fun j v' hj => by rw [add_none, Nat.add_assoc]; exact h4 j v' hj, h5⟩

/-! ### load -/
def aLoad (P : Program) (t : TypeId) (x : Value) (H : AHeap) : Option Value :=
  match x with
  | .pointer (some ⟨i, o, none⟩) => match H.get i with
    | some (.row cells _ _ _) => match P.underlying t with
      | some d => cond (aggT d) (match P.info? t with
        | some inf => (cut cells o inf.size).map fun l => .agg l.toArray
        | none => none) (cells[o]?)
      | none => none
    | _ => none
  | _ => none
theorem load_value {P : Program} {o : Oper} {ρ ρ' : Operand → Value} {t : TypeId} {x : Operand} {v : Value} {β : Ren} {w : World} (ho : o.op = .load t x) {H : AHeap} (h : aLoad P t (ρ x) H = some v) (hr : Rel β H w) (h1 : VR β (ρ x) (ρ' x)) : ∃ v', (execOp ρ' o).run P w = .ok (.value v') w ∧ VR β v v' := by
  unfold aLoad at h
  split at h
  · rename_i i p hx
    rw [hx] at h1
    generalize hu : ρ' x = u at h1
    cases h1 with
    | @ptr _ _ s hs =>
      split at h
      · rename_i cells elem esz own hi
        split at h
        · rename_i d hd
          cases ha : aggT d with
          | true =>
            rw [ha] at h
            simp only [cond] at h
            split at h
            · rename_i inf hinf
              cases hc : cut cells p inf.size with
              | none => rw [hc] at h; cases h
              | some l =>
                rw [hc] at h; simp at h; subst h
                obtain ⟨l', h2, h2', h3, h4⟩ := rel_piece hr hi hs hc
                refine ⟨.agg l'.toArray, ?_, .agg (by simp [h2, h2']) (by simpa using h4)⟩
                have := run_loadCells_list (P := P) w ⟨s.blk, s.shift + p, none⟩ l' h3
                rw [h2] at this
                simp [execOp, ho, hu, Instr.loadAt, Instr.sureAddr, loadVar, run_isAgg' hd, ha, run_sizeOf' hinf, this]
            · cases h
          | false =>
            rw [ha] at h
            simp only [cond] at h
            obtain ⟨_, h2, _⟩ := hr.obj _ _ _ hi hs
            obtain ⟨v', hv, hvr⟩ := h2 p v h
            exact ⟨v', by simp [execOp, ho, hu, Instr.loadAt, Instr.sureAddr, loadVar, run_isAgg' hd, ha, hv], hvr⟩
        · cases h
      · cases h
  · cases h

theorem fits_load {P : Program} {o : Oper} {ρ : Operand → Value} {t : TypeId} {x : Operand} {v : Value} (ho : o.op = .load t x) (fid : Nat) (H : AHeap) (h : aLoad P t (ρ x) H = some v) : Fits P o ρ fid H v H :=
  fits_value fid H fun _ _ _ hr hρ => load_value ho h hr (hρ x (by simp [ho, Op.operands]))

/-! ### store -/
def oneV : Value → Bool
  | .agg _ | .tuple _ => false
  | _ => true
theorem oneV_vr {β : Ren} {v v' : Value} (h : VR β v v') (hv : oneV v = true) : v'.oneCell' = true := by
  cases h <;> first | rfl | cases hv
def aStoreCells (i : Nat) (elem : TypeId) (esz : Nat) : AHeap → List Value → Nat → List Value → Option AHeap
  | H, _, _, [] => some H
  | H, cells, o, v :: vs => cond (Nat.blt o cells.length && oneV v) (aStoreCells i elem esz (H.upd i (some (.row (cells.set o v) elem esz true))) (cells.set o v) (o + 1) vs) none
theorem storeCells_goes {P : Program} {β : Ren} {i : Nat} {elem : TypeId} {esz : Nat} {s : Spot} (hs : β i = some s) {p : Nat} :
    ∀ (vs vs' : List Value) (H H' : AHeap) (w : World) (cells : List Value) (o k : Nat), Rel β H w → H.get i = some (.row cells elem esz true) → o = p + k → vs.length = vs'.length → (∀ (j : Nat) (x y : Value), vs[j]? = some x → vs'[j]? = some y → VR β x y) →
      aStoreCells i elem esz H cells o vs = some H' → ∃ w', (storeCells ⟨s.blk, s.shift + p, none⟩ vs' k).run P w = .ok () w' ∧ Goes β H w β H' w' ∧ H'.next = H.next ∧ ∃ cells', cells'.length = cells.length ∧ H'.get i = some (.row cells' elem esz true)
  | [], vs', H, H', w, cells, o, k, hr, hi, _, hl, _, h => by
    simp only [aStoreCells] at h; cases h
    cases vs' with
    | nil => exact ⟨w, by simp [storeCells], .refl hr, rfl, cells, rfl, hi⟩
    | cons => simp at hl
  | v :: vs, vs', H, H', w, cells, o, k, hr, hi, hok, hl, hvr, h => by
    cases vs' with
    | nil => simp at hl
    | cons v' vs' =>
      simp only [aStoreCells] at h
      cases hc : (Nat.blt o cells.length && oneV v) with
      | false => rw [hc] at h; cases h
      | true =>
        rw [hc] at h
        simp only [cond] at h
        rw [Bool.and_eq_true, Nat.blt_eq] at hc
        have hv := hvr 0 v v' rfl rfl
        obtain ⟨h1, h2, h3⟩ := hr.obj _ _ _ hi hs
        obtain ⟨u, hu, _⟩ := h2 o (cells[o]'hc.1) (by simp [hc.1])
        obtain ⟨_, c, fz, hc1, hc2, hc3⟩ := h3 rfl
        have hlt : s.shift + o < s.tot := by
          have : c[s.shift + o]? = some u := by rw [World.cell?, hc1] at hu; simpa using hu
          have := (Array.getElem?_eq_some_iff.1 this).1; omega
        have hfz : w.frozen? ⟨s.blk, s.shift + o, none⟩ = false := by
          simp only [World.frozen?, hc1]; exact hc3 _ hlt
        have g1 := Goes.store hr hi hs hc.1 hv
        have hget : (H.upd i (some (.row (cells.set o v) elem esz true))).get i = some (.row (cells.set o v) elem esz true) := by rw [AHeap.get_upd, if_pos rfl]
        obtain ⟨w', h4, h5, h6, cells', h7, h8⟩ := storeCells_goes hs (P := P) (p := p) vs vs' _ H' _ (cells.set o v) (o + 1) (k + 1) g1.rel hget (by omega) (by simpa using hl) (fun j x y hx hy => hvr (j + 1) x y hx hy) h
        refine ⟨w', ?_, g1.trans h5, h6, cells', by simpa using h7, h8⟩
        have e : (⟨s.blk, s.shift + p, none⟩ : Addr).add k = ⟨s.blk, s.shift + o, none⟩ := by rw [add_none, hok, Nat.add_assoc]
        simp only [storeCells, Sem.run_bind, run_store _ _ _ _ _ (oneV_vr hv hc.2), e, hu, hfz, Result.andThen]
        exact h4
def aStore (P : Program) (t : TypeId) (x v : Value) (H : AHeap) : Option AHeap :=
  match x with
  | .pointer (some ⟨i, o, none⟩) => match H.get i, P.info? t with
    | some (.row cells elem esz true), some inf => cond (Nat.beq v.cells.size inf.size) (aStoreCells i elem esz H cells o v.cells.toList) none
    | _, _ => none
  | _ => none
theorem fits_store {P : Program} {o : Oper} {ρ : Operand → Value} {t : TypeId} {x y : Operand} {H' : AHeap} (ho : o.op = .store t x y) (fid : Nat) (H : AHeap) (h : aStore P t (ρ x) (ρ y) H = some H') : Fits P o ρ fid H undef H' := by
  intro β w ρ' hr _ _ hρ
  have h1 := hρ x (by simp [ho, Op.operands])
  have h2 := hρ y (by simp [ho, Op.operands])
  unfold aStore at h
  split at h
  · rename_i i p hx
    rw [hx] at h1
    generalize hu : ρ' x = u at h1
    cases h1 with
    | @ptr _ _ s hs =>
      split at h
      · rename_i cells elem esz inf hi hinf
        obtain ⟨hsz, hcv⟩ := cells_vr h2
        cases hb : Nat.beq (ρ y).cells.size inf.size with
        | false => simp [hb] at h
        | true =>
          simp only [hb, cond] at h
          have hb' := Nat.eq_of_beq_eq_true hb
          obtain ⟨w', h3, h4, h5, _⟩ := storeCells_goes (P := P) hs (p := p) (ρ y).cells.toList (ρ' y).cells.toList H H' w cells p 0 hr hi rfl (by simpa using hsz) (by simpa using hcv) h
          refine ⟨β, undef, w', ⟨.skip, ?_, .inr ⟨rfl, rfl⟩⟩, vr_undef β, h4, fun _ _ => rfl, h5⟩
          simp [execOp, ho, hu, Instr.storeAt, Instr.sureAddr, storeVar, run_sizeOf' hinf, ← hb', hsz, h3]
      · cases h
  · cases h

/-! ### new blocks -/
/-- a new row of the call's own -/
def newRowA (fid : Nat) (cells : List Value) (elem : TypeId) (esz : Nat) (H : AHeap) : AHeap := H.add fid (.row cells elem esz true)
theorem goes_newRow {β : Ren} {H : AHeap} {w : World} (hr : Rel β H w) {fid : Nat} (hf : β fid = none) (hn : fid < H.next) {cells cells' : List Value} (more : List Value) (elem : TypeId) (esz : Nat) (hl : cells.length = cells'.length)
    (hc : ∀ (j : Nat) (x y : Value), cells[j]? = some x → cells'[j]? = some y → VR β x y) :
    Goes β H w (β.put fid ⟨w.heap.size, 0, esz, (cells' ++ more).length, true⟩) (newRowA fid cells elem esz H) (w.alloc (.cells (cells' ++ more).toArray elem)) := by
  refine Goes.alloc hr fid hf (.cells (cells' ++ more).toArray elem) (.row cells elem esz true) ⟨w.heap.size, 0, esz, (cells' ++ more).length, true⟩ rfl rfl ?_ H.next hn (Nat.le_refl _)
  intro β' hle _
  refine ⟨rfl, fun j v hj => ?_, fun _ => ⟨rfl, (cells' ++ more).toArray, (0, 0), heap_alloc_new w _, by simp, fun j _ => by simp⟩⟩
  have hjl : j < cells'.length := by have := (List.getElem?_eq_some_iff.1 hj).1; omega
  refine ⟨cells'[j], ?_, (hc j v _ hj (by simp [hjl])).mono hle⟩
  have e := cell_of_row (w.alloc (.cells (cells' ++ more).toArray elem)) w.heap.size j (cells' ++ more).toArray elem (0, 0) (heap_alloc_new w _)
  simp only [Nat.zero_add]
  rw [e]
  simp [hjl, List.getElem?_append_left]
theorem put_other {β : Ren} {fid : Nat} {s : Spot} : ∀ i, i ≠ fid → (β.put fid s) i = β i := fun _ h => Ren.put_other β s h

theorem fits_alloc {P : Program} {o : Oper} {ρ : Operand → Value} {t : TypeId} {inf : TypeInfo} {z : Value} (ho : o.op = .alloc t) (hi : P.info? t = some inf) (hz : inf.zero = some z) (hfl : flat2 z = true) (fid : Nat) (H : AHeap) :
    Fits P o ρ fid H (.pointer (some ⟨fid, 0, none⟩)) (newRowA fid z.cells.toList t 0 H) := by
  intro β w ρ' hr hf hn _
  have g := goes_newRow hr hf hn (cells := z.cells.toList) (cells' := z.cells.toList) [] t 0 rfl (fun j x y hx hy => (cells_vr (flat2_vr hfl β).1).2 j x y (by simpa using hx) (by simpa using hy))
  refine ⟨_, .pointer (some ⟨w.heap.size, 0, none⟩), _, ⟨.value (.pointer (some ⟨w.heap.size, 0, none⟩)), ?_, .inl rfl⟩, .ptr (s := ⟨w.heap.size, 0, 0, (z.cells.toList ++ []).length, true⟩) (Ren.put_same ..), g, put_other, rfl⟩
  simp [execOp, ho, Instr.alloc, run_zeroValue' hi hz, newVar, newRow]
theorem fits_box {P : Program} {o : Oper} {ρ : Operand → Value} {t : TypeId} {x : Operand} (ho : o.op = .box t x) (fid : Nat) (H : AHeap) :
    Fits P o ρ fid H (.pointer (some ⟨fid, 0, none⟩)) (newRowA fid (ρ x).cells.toList t 0 H) := by
  intro β w ρ' hr hf hn hρ
  obtain ⟨hs, hc⟩ := cells_vr (hρ x (by simp [ho, Op.operands]))
  have g := goes_newRow hr hf hn (cells := (ρ x).cells.toList) (cells' := (ρ' x).cells.toList) [] t 0 (by simpa using hs) (by simpa using hc)
  refine ⟨_, .pointer (some ⟨w.heap.size, 0, none⟩), _, ⟨.value (.pointer (some ⟨w.heap.size, 0, none⟩)), ?_, .inl rfl⟩, .ptr (s := ⟨w.heap.size, 0, 0, ((ρ' x).cells.toList ++ []).length, true⟩) (Ren.put_same ..), g, put_other, rfl⟩
  simp [execOp, ho, Instr.box, newVar, newRow]

/-! ### struct, array and slice values of parts -/
def PartsVR (β : Ren) (a b : List (Nat × Value)) : Prop := a.length = b.length ∧ ∀ (j : Nat) (x y : Nat × Value), a[j]? = some x → b[j]? = some y → x.1 = y.1 ∧ VR β x.2 y.2
def ArrVR (β : Ren) (a b : Array Value) : Prop := a.size = b.size ∧ ∀ (j : Nat) (x y : Value), a[j]? = some x → b[j]? = some y → VR β x y
theorem ArrVR.set {β : Ren} {a b : Array Value} (h : ArrVR β a b) (k : Nat) {x y : Value} (hx : VR β x y) : ArrVR β (a.setIfInBounds k x) (b.setIfInBounds k y) := by
  refine ⟨by simp [h.1], fun j u v hu hv => ?_⟩
  rw [Array.getElem?_setIfInBounds] at hu hv
  by_cases e : k = j
  · subst e
    rw [if_pos rfl] at hu hv
    split at hu
    · split at hv
      · cases hu; cases hv; exact hx
      · cases hv
    · cases hu
  · rw [if_neg e] at hu hv; exact h.2 j u v hu hv
theorem fold_vr {β : Ren} (off : Nat) : ∀ (c c' : List Value) (k : Nat) (a b : Array Value), ArrVR β a b → c.length = c'.length → (∀ (j : Nat) (x y : Value), c[j]? = some x → c'[j]? = some y → VR β x y) →
    ArrVR β ((c.zipIdx k).foldl (fun cs (p : Value × Nat) => cs.setIfInBounds (off + p.2) p.1) a) ((c'.zipIdx k).foldl (fun cs (p : Value × Nat) => cs.setIfInBounds (off + p.2) p.1) b)
  | [], c', k, a, b, h, hl, _ => by
    cases c' with
    | nil => exact h
    | cons => simp at hl
  | x :: c, c', k, a, b, h, hl, hc => by
    cases c' with
    | nil => simp at hl
    | cons y c' =>
      simp only [List.zipIdx_cons, List.foldl_cons]
      exact fold_vr off c c' (k + 1) _ _ (h.set _ (hc 0 x y rfl rfl)) (by simpa using hl) (fun j x y hx hy => hc (j + 1) x y hx hy)
theorem fill_vr {β : Ren} (place : Nat → Option (Nat × Nat)) : ∀ (ps ps' : List (Nat × Value)) (a b r : Array Value), PartsVR β ps ps' → ArrVR β a b → Instr.fill place a ps = some r → ∃ r', Instr.fill place b ps' = some r' ∧ ArrVR β r r'
  | [], ps', a, b, r, hp, h, hr => by
    cases ps' with
    | nil => simp only [Instr.fill] at hr ⊢; cases hr; exact ⟨b, rfl, h⟩
    | cons => have := hp.1; simp at this
  | (i, v) :: ps, ps', a, b, r, hp, h, hr => by
    cases ps' with
    | nil => have := hp.1; simp at this
    | cons q ps' =>
      obtain ⟨i', v'⟩ := q
      obtain ⟨hi, hv⟩ := hp.2 0 (i, v) (i', v') rfl rfl
      simp only at hi hv
      subst hi
      obtain ⟨hs, hc⟩ := cells_vr hv
      simp only [Instr.fill] at hr ⊢
      split at hr
      · cases hr
      · rename_i off size hpl
        rw [← hs, ← h.1]
        split at hr
        · cases hr
        · rename_i hcond
          rw [if_neg hcond]
          refine fill_vr place ps ps' _ _ r ⟨by have := hp.1; simpa using this, fun j x y hx hy => hp.2 (j + 1) x y hx hy⟩ ?_ hr
          have := fold_vr off v.cells.toList v'.cells.toList 0 a b h (by simpa using hs) (by simpa using hc)
          rw [← Array.foldl_toList, ← Array.foldl_toList]
          simpa using this
theorem parts_vr {β : Ren} {ρ ρ' : Operand → Value} (ps : Array (Nat × Operand)) (h : ∀ p ∈ ps.toList, VR β (ρ p.2) (ρ' p.2)) : PartsVR β (ps.map fun (i, x) => (i, ρ x)).toList (ps.map fun (i, x) => (i, ρ' x)).toList := by
  refine ⟨by simp, fun j x y hx hy => ?_⟩
  simp only [Array.toList_map, List.getElem?_map] at hx hy
  obtain ⟨p, hp, rfl⟩ := Option.map_eq_some_iff.1 hx
  rw [hp] at hy; cases hy
  exact ⟨rfl, h p (List.mem_of_getElem? hp)⟩
theorem flat_arr {β : Ren} {z : Value} (h : flat2 z = true) : ArrVR β z.cells z.cells := cells_vr (flat2_vr h β).1

def placesOf (P : Program) (fields : Array Field) : Option (List (Nat × Nat)) := fields.toList.mapM fun f => (P.info? f.type).map fun i => (f.offset, i.size)
theorem run_places {P : Program} : ∀ (fs : List Field) (l : List (Nat × Nat)), (fs.mapM fun f => (P.info? f.type).map fun i => (f.offset, i.size)) = some l → ∀ w, (fs.mapM (m := Sem) fun f => do pure (f.offset, ← sizeOf f.type)).run P w = .ok l w
  | [], l, h, w => by simp at h; subst h; simp
  | f :: fs, l, h, w => by
    simp only [List.mapM_cons, Option.bind_eq_bind, Option.bind_eq_some_iff] at h
    obtain ⟨a, ha, b, hb, h⟩ := h
    simp only [Option.pure_def, Option.some.injEq] at h
    subst h
    obtain ⟨i, hi, rfl⟩ := Option.map_eq_some_iff.1 ha
    have ih := run_places fs b hb w
    simp only [List.mapM_cons, Sem.run_bind, run_sizeOf' hi, Result.andThen_ok, Sem.run_pure]
    rw [ih]
    rfl

def aBuild (P : Program) (ρ : Operand → Value) (t : TypeId) (parts : Array (Nat × Operand)) : Option Value :=
  match P.info? t, P.underlying t with
  | some inf, some (.struct fields) => match inf.zero, placesOf P fields with
    | some z, some pl => cond (flat2 z) ((Instr.fill (pl.toArray[·]?) z.cells (parts.map fun (i, x) => (i, ρ x)).toList).map .agg) none
    | _, _ => none
  | some inf, some (.array _ el) => match inf.zero, P.info? el with
    | some z, some ie => cond (flat2 z) ((Instr.fill (fun i => some (i * ie.size, ie.size)) z.cells (parts.map fun (i, x) => (i, ρ x)).toList).map .agg) none
    | _, _ => none
  | _, _ => none
theorem fits_build {P : Program} {o : Oper} {ρ : Operand → Value} {t : TypeId} {ps : Array (Nat × Operand)} {v : Value} (ho : o.op = .build t ps) (h : aBuild P ρ t ps = some v) (fid : Nat) (H : AHeap) : Fits P o ρ fid H v H := by
  refine fits_value fid H fun β w ρ' hr hρ => ?_
  have hp := parts_vr (β := β) (ρ := ρ) (ρ' := ρ') ps fun p hp => hρ p.2 (by simp only [ho, Op.operands]; simp only [List.mem_toArray, List.mem_map]; exact ⟨p, hp, rfl⟩)
  unfold aBuild at h
  split at h
  · rename_i inf fields hinf hd
    split at h
    · rename_i z pl hz hpl
      cases hfz : flat2 z with
      | false => simp [hfz] at h
      | true =>
        simp only [hfz, cond] at h
        obtain ⟨r, hr1, rfl⟩ := Option.map_eq_some_iff.1 h
        obtain ⟨r', h2, h3⟩ := fill_vr _ _ _ _ _ r hp (flat_arr (β := β) hfz) hr1
        refine ⟨.agg r', ?_, .agg h3.1 h3.2⟩
        have hm := run_places (P := P) fields.toList pl hpl w
        simp only [execOp, ho, Instr.build, Sem.run_bind, run_zeroValue' hinf hz, Result.andThen_ok, run_underlying' hd]
        rw [show (fields.mapM (m := Sem) fun f => do pure (f.offset, ← sizeOf f.type)) = List.toArray <$> (fields.toList.mapM fun f => do pure (f.offset, ← sizeOf f.type)) from by rw [Array.mapM_eq_mapM_toList]]
        simp only [Sem.run_map, hm, Result.andThen_ok, Sem.run_pure]
        simp only [h2]
        rfl
    · cases h
  · rename_i inf n el hinf hd
    split at h
    · rename_i z ie hz hie
      cases hfz : flat2 z with
      | false => simp [hfz] at h
      | true =>
        simp only [hfz, cond] at h
        obtain ⟨r, hr1, rfl⟩ := Option.map_eq_some_iff.1 h
        obtain ⟨r', h2, h3⟩ := fill_vr _ _ _ _ _ r hp (flat_arr (β := β) hfz) hr1
        refine ⟨.agg r', ?_, .agg h3.1 h3.2⟩
        simp only [execOp, ho, Instr.build, Sem.run_bind, run_zeroValue' hinf hz, Result.andThen_ok, run_underlying' hd, run_sizeOf' hie]
        simp only [h2]
        rfl
    · cases h
  · cases h
end Go.Proofs.Ytmflapajjghpmaa
