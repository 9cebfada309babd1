/- The abstract machine's operations on maps, lengths and nil. -/
import Derived.Test.YtmflapajjghpmaaAmOp4
import Derived.MapKept
namespace Go.Proofs.Ytmflapajjghpmaa
open Go.RowKit

theorem qval_bind (P : Program) {α γ : Type} (x : Sem α) (f : α → Sem γ) : qval P (x >>= f) = (qval P x).bind fun a => qval P (f a) := by
  show qval P (x.bind f) = _
  induction x with
  | pure a => rfl
  | program k ih => exact ih P
  | mark m k ih => exact ih
  | _ => rfl
theorem qval_pure (P : Program) {α : Type} (a : α) : qval P (pure a : Sem α) = some a := rfl

/-! ### a key is found -/
def SameKeys (es es' : List MapEntry) : Prop := es.length = es'.length ∧ ∀ (j : Nat) (e e' : MapEntry), es[j]? = some e → es'[j]? = some e' → e'.key = e.key
theorem SameKeys.tail {e e' : MapEntry} {es es' : List MapEntry} (h : SameKeys (e :: es) (e' :: es')) : e'.key = e.key ∧ SameKeys es es' :=
  ⟨h.2 0 e e' rfl rfl, by have := h.1; simpa using this, fun j x y hx hy => h.2 (j + 1) x y hx hy⟩
/-- the same place, in both lists -/
def SameFind (es es' : List MapEntry) (i : Nat) (r r' : Option (Nat × Value)) : Prop :=
  (r = none ∧ r' = none) ∨ ∃ (j : Nat) (e e' : MapEntry), es[j]? = some e ∧ es'[j]? = some e' ∧ r = some (i + j, e.val) ∧ r' = some (i + j, e'.val)
theorem SameFind.up {e e' : MapEntry} {es es' : List MapEntry} {i : Nat} {r r' : Option (Nat × Value)} (h : SameFind es es' (i + 1) r r') : SameFind (e :: es) (e' :: es') i r r' := by
  rcases h with h | ⟨j, x, y, h1, h2, h3, h4⟩
  · exact .inl h
  · exact .inr ⟨j + 1, x, y, h1, h2, by rw [h3]; congr 2; omega, by rw [h4]; congr 2; omega⟩
theorem findNow_same (kind : TypeDesc) (k : Value) : ∀ (es es' : List MapEntry) (i : Nat), SameKeys es es' → (Instr.findNow kind k es i = none ∧ Instr.findNow kind k es' i = none) ∨ ∃ r r', Instr.findNow kind k es i = some r ∧ Instr.findNow kind k es' i = some r' ∧ SameFind es es' i r r'
  | [], es', i, h => by
    cases es' with
    | nil => exact .inr ⟨none, none, rfl, rfl, .inl ⟨rfl, rfl⟩⟩
    | cons => have := h.1; simp at this
  | e :: es, es', i, h => by
    cases es' with
    | nil => have := h.1; simp at this
    | cons e' es' =>
      obtain ⟨hk, ht⟩ := h.tail
      simp only [Instr.findNow, hk]
      cases hs : Instr.sameNow kind k e.key with
      | none => exact .inl ⟨rfl, rfl⟩
      | some b =>
        cases b with
        | true => exact .inr ⟨_, _, rfl, rfl, .inr ⟨0, e, e', rfl, rfl, rfl, rfl⟩⟩
        | false =>
          rcases findNow_same kind k es es' (i + 1) ht with h1 | ⟨r, r', h1, h2, h3⟩
          · exact .inl h1
          · exact .inr ⟨r, r', h1, h2, h3.up⟩
theorem findAsking_same (P : Program) (t : TypeId) (k : Value) : ∀ (es es' : List MapEntry) (i : Nat) (r : Option (Nat × Value)), SameKeys es es' → qval P (Instr.findAsking t k es i) = some r → ∃ r', qval P (Instr.findAsking t k es' i) = some r' ∧ SameFind es es' i r r'
  | [], es', i, r, h, hr => by
    cases es' with
    | nil => simp only [Instr.findAsking, qval_pure, Option.some.injEq] at hr ⊢; subst hr; exact ⟨none, rfl, .inl ⟨rfl, rfl⟩⟩
    | cons => have := h.1; simp at this
  | e :: es, es', i, r, h, hr => by
    cases es' with
    | nil => have := h.1; simp at this
    | cons e' es' =>
      obtain ⟨hk, ht⟩ := h.tail
      simp only [Instr.findAsking, qval_bind, hk] at hr ⊢
      cases hq : qval P (Op.equal t k e.key) with
      | none => rw [hq] at hr; cases hr
      | some b =>
        rw [hq] at hr
        simp only [Option.bind_some] at hr ⊢
        cases b with
        | true =>
          simp only [if_true, qval_pure, Option.some.injEq] at hr ⊢
          subst hr
          exact ⟨_, rfl, .inr ⟨0, e, e', rfl, rfl, rfl, rfl⟩⟩
        | false =>
          simp only [Bool.false_eq_true, if_false] at hr ⊢
          obtain ⟨r', h1, h2⟩ := findAsking_same P t k es es' (i + 1) r ht hr
          exact ⟨r', h1, h2.up⟩
theorem qval_underlying {P : Program} {t : TypeId} {d : TypeDesc} (h : P.underlying t = some d) : qval P (underlying t) = some d := by
  simp only [underlying, qval_bind]
  show (some P).bind _ = _
  simp only [Option.bind_some, h]
  rfl
theorem findKey_same (P : Program) (t : TypeId) (k : Value) (es es' : List MapEntry) (r : Option (Nat × Value)) (h : SameKeys es es') (hr : qval P (Instr.findKey t k es) = some r) : ∃ r', qval P (Instr.findKey t k es') = some r' ∧ SameFind es es' 0 r r' := by
  simp only [Instr.findKey, qval_bind] at hr ⊢
  cases hq : qval P (underlying t) with
  | none => rw [hq] at hr; cases hr
  | some d =>
    rw [hq] at hr
    simp only [Option.bind_some] at hr ⊢
    rcases findNow_same d k es es' 0 h with ⟨h1, h2⟩ | ⟨a, a', h1, h2, h3⟩
    · rw [h1] at hr; rw [h2]
      exact findAsking_same P t k es es' 0 r h hr
    · rw [h1] at hr; rw [h2]
      simp only [qval_pure, Option.some.injEq] at hr ⊢
      subst hr
      exact ⟨a', rfl, h3⟩

/-- a map's entries by an abstract map value -/
def entriesOf (x : Value) (H : AHeap) : Option (List MapEntry) :=
  match x with
  | .map none => some []
  | .map (some i) => match H.get i with
    | some (.map es _) => some es
    | _ => none
  | _ => none
theorem run_getObj' {P : Program} {w : World} {r : Nat} {O : Obj} (h : w.heap[r]? = some O) (hc : ∀ c e f, O ≠ .cells c e f) : (getObj r).run P w = .ok O w := by
  simp only [getObj, Sem.run, h]
  try (cases O <;> first | rfl | exact absurd rfl (hc _ _ _))
theorem run_setObj' {P : Program} {w : World} {r : Nat} {O O' : Obj} (h : w.heap[r]? = some O) (hc : ∀ c e f, O ≠ .cells c e f) : (setObj r O').run P w = .ok () { w with heap := w.heap.setIfInBounds r O' } := by
  simp only [setObj, Sem.run, h]
  try (cases O <;> first | rfl | exact absurd rfl (hc _ _ _))
theorem entries_same {β : Ren} {es : List MapEntry} {es' : Array MapEntry} (hl : es'.size = es.length) (h : ∀ (j : Nat) (e e' : MapEntry), es[j]? = some e → es'[j]? = some e' → EntryRel β e e') : SameKeys es es'.toList :=
  ⟨by simpa using hl.symm, fun j e e' a b => (h j e e' a (by simpa using b)).2.1⟩

/-! ### look-up -/
def aLookup (P : Program) (t : TypeId) (x key : Value) (ok : Bool) (H : AHeap) : Option Value :=
  match P.underlying t with
  | some (.map kt el) => cond (flat2 key) (match entriesOf x H with
    | some es => match qval P (Instr.checkKey es.isEmpty 10000 kt key), qval P (Instr.findKey kt key es) with
      | some _, some (some (_, v)) => some (cond ok (.tuple #[v, .bool true]) v)
      | some _, some none => match P.info? el with
        | some inf => match inf.zero with
          | some z => cond (flat2 z) (some (cond ok (.tuple #[z, .bool false]) z)) none
          | none => none
        | none => none
      | _, _ => none
    | none => none) none
  | _ => none
theorem vr_pair {β : Ren} {v v' : Value} (h : VR β v v') (b : Bool) : VR β (.tuple #[v, .bool b]) (.tuple #[v', .bool b]) := by
  refine .tuple rfl fun j x y hx hy => ?_
  match j, hx, hy with
  | 0, hx, hy => simp at hx hy; subst hx hy; exact h
  | 1, hx, hy => simp at hx hy; subst hx hy; exact .bool b
  | j + 2, hx, _ => simp at hx
theorem fits_lookup {P : Program} {o : Oper} {ρ : Operand → Value} {t : TypeId} {x k : Operand} {ok : Bool} {v : Value} (ho : o.op = .lookup t x k ok) (fid : Nat) (H : AHeap) (h : aLookup P t (ρ x) (ρ k) ok H = some v) : Fits P o ρ fid H v H := by
  refine fits_value fid H fun β w ρ' hr hρ => ?_
  have hx := hρ x (by simp [ho, Op.operands])
  have hk := hρ k (by simp [ho, Op.operands])
  unfold aLookup at h
  split at h
  · rename_i kt el ht
    cases hf : flat2 (ρ k) with
    | false => rw [hf] at h; cases h
    | true =>
      rw [hf] at h
      simp only [cond] at h
      have ek : ρ' k = ρ k := (flat2_vr hf β).2 _ hk
      split at h
      · rename_i es hes
        -- the model's entries
        obtain ⟨es', hE, hsame, hrel⟩ : ∃ es' : Array MapEntry, ((ρ' x = .map none ∧ es' = #[]) ∨ ∃ r clock, ρ' x = .map (some r) ∧ w.heap[r]? = some (.map es' clock)) ∧ es'.size = es.length ∧ ∀ (j : Nat) (e e' : MapEntry), es[j]? = some e → es'[j]? = some e' → EntryRel β e e' := by
          unfold entriesOf at hes
          split at hes
          · rename_i hxx
            rw [hxx] at hx; generalize ρ' x = q at hx ⊢
            cases hx; cases hes
            exact ⟨#[], .inl ⟨rfl, rfl⟩, rfl, fun j e e' a => by simp at a⟩
          · rename_i i hxx
            rw [hxx] at hx; generalize ρ' x = q at hx ⊢
            split at hes
            · rename_i es2 clock hi
              cases hes
              cases hx with
              | map hs =>
                obtain ⟨_, es', h1, h2, h3⟩ := hr.obj _ _ _ hi hs
                exact ⟨es', .inr ⟨_, clock, rfl, h1⟩, h2, h3⟩
            · cases hes
          · cases hes
        have hsk := entries_same hsame hrel
        have hemp : es'.isEmpty = es.isEmpty := by
          cases es with
          | nil => have : es'.size = 0 := hsame; simp [Array.isEmpty, this]
          | cons a l => have : es'.size = l.length + 1 := hsame; simp [Array.isEmpty, this]
        split at h
        · rename_i u j v0 hck hfk
          obtain ⟨r', h1, h2⟩ := findKey_same P kt (ρ k) es es'.toList _ hsk hfk
          rcases h2 with ⟨h2, _⟩ | ⟨j0, e, e', a1, a2, a3, a4⟩
          · cases h2
          · simp only [Option.some.injEq, Prod.mk.injEq, Nat.zero_add] at a3
            obtain ⟨rfl, rfl⟩ := a3
            subst a4
            have hev := (hrel j e e' a1 (by simpa using a2)).2.2.2
            have hck' := qval_run P hck w
            have hfk' := qval_run P h1 w
            simp only [Option.some.injEq] at h
            refine ⟨cond ok (.tuple #[e'.val, .bool true]) e'.val, ?_, ?_⟩
            · rcases hE with ⟨hE, rfl⟩ | ⟨r, clock, hE, hh⟩
              · simp at a2
              · simp only [execOp, ho, Instr.lookup, Sem.run_bind, run_underlying' ht, Result.andThen_ok, hE, run_getObj' hh (by intro c e f hh; cases hh), Sem.run_pure, ek, hemp, hck', hfk']
                cases ok <;> rfl
            · subst h
              cases ok
              · exact hev
              · exact vr_pair hev true
        · rename_i u hck hfk
          obtain ⟨r', h1, h2⟩ := findKey_same P kt (ρ k) es es'.toList _ hsk hfk
          rcases h2 with ⟨_, h2⟩ | ⟨j0, e, e', a1, a2, a3, a4⟩
          · subst h2
            have hck' := qval_run P hck w
            have hfk' := qval_run P h1 w
            split at h
            · rename_i inf hinf
              split at h
              · rename_i z hz
                cases hfz : flat2 z with
                | false => rw [hfz] at h; cases h
                | true =>
                  rw [hfz] at h
                  simp only [Option.some.injEq] at h
                  refine ⟨cond ok (.tuple #[z, .bool false]) z, ?_, ?_⟩
                  · rcases hE with ⟨hE, rfl⟩ | ⟨r, clock, hE, hh⟩
                    · simp only [execOp, ho, Instr.lookup, Sem.run_bind, run_underlying' ht, Result.andThen_ok, hE, Sem.run_pure, ek, hemp, hck', hfk', run_zeroValue' hinf hz]
                      cases ok <;> rfl
                    · simp only [execOp, ho, Instr.lookup, Sem.run_bind, run_underlying' ht, Result.andThen_ok, hE, run_getObj' hh (by intro c e f hh; cases hh), Sem.run_pure, ek, hemp, hck', hfk', run_zeroValue' hinf hz]
                      cases ok <;> rfl
                  · subst h
                    cases ok
                    · exact (flat2_vr hfz β).1
                    · exact vr_pair (flat2_vr hfz β).1 false
              · cases h
            · cases h
          · cases a3
        · cases h
      · cases h
  · cases h

/-! ### a map is written -/
def aMapUpdate (P : Program) (t : TypeId) (x key v : Value) (H : AHeap) : Option AHeap :=
  match P.underlying t, x with
  | some (.map kt _), .map (some i) => cond (flat2 key) (match H.get i with
    | some (.map es clock) => match qval P (Instr.checkKey false 10000 kt key), qval P (Instr.findKey kt key es) with
      | some _, some (some (j, _)) => match es[j]? with
        | some e => cond (Instr.sameBits 10000 e.key key) (some (H.upd i (some (.map (es.set j { key := key, val := v, born := e.born }) clock)))) none
        | none => none
      | some _, some none => some (H.upd i (some (.map (es ++ [{ key := key, val := v, born := clock }]) (clock + 1))))
      | _, _ => none
    | _ => none) none
  | _, _ => none
theorem fits_mapUpdate {P : Program} {o : Oper} {ρ : Operand → Value} {t : TypeId} {x k y : Operand} {H' : AHeap} (ho : o.op = .mapUpdate t x k y ∨ o.op = .insert t x k y) (fid : Nat) (H : AHeap) (h : aMapUpdate P t (ρ x) (ρ k) (ρ y) H = some H') : Fits P o ρ fid H undef H' := by
  intro β w ρ' hr _ _ hρ
  have hx := hρ x (by rcases ho with ho | ho <;> simp [ho, Op.operands])
  have hk := hρ k (by rcases ho with ho | ho <;> simp [ho, Op.operands])
  have hy := hρ y (by rcases ho with ho | ho <;> simp [ho, Op.operands])
  have hrun : ∀ w', (Instr.mapUpdate t (ρ' x) (ρ' k) (ρ' y)).run P w = .ok () w' → (execOp ρ' o).run P w = .ok .skip w' := fun w' hw => by
    rcases ho with ho | ho <;> simp only [execOp, ho, Sem.run_bind, hw, Result.andThen_ok, Sem.run_pure]
  unfold aMapUpdate at h
  split at h
  · rename_i kt el i ht hxx
    cases hf : flat2 (ρ k) with
    | false => rw [hf] at h; cases h
    | true =>
      rw [hf] at h
      simp only [cond] at h
      have ek : ρ' k = ρ k := (flat2_vr hf β).2 _ hk
      split at h
      · rename_i es clock hi
        rw [hxx] at hx
        generalize hq : ρ' x = q at hx hrun
        cases hx with
        | @map _ s hs =>
          obtain ⟨hso, es', h1, h2, h3⟩ := hr.obj _ _ _ hi hs
          have hsk := entries_same h2 h3
          have hget := run_getObj' (P := P) h1 (by intro c e f hh; cases hh)
          have hset : ∀ O', (setObj s.blk O').run P w = .ok () { w with heap := w.heap.setIfInBounds s.blk O' } := fun O' => run_setObj' (P := P) h1 (by intro c e f hh; cases hh)
          split at h
          · rename_i u j v0 hck hfk
            obtain ⟨r', g1, g2⟩ := findKey_same P kt (ρ k) es es'.toList _ hsk hfk
            rcases g2 with ⟨g2, _⟩ | ⟨j0, e, e', a1, a2, a3, a4⟩
            · cases g2
            · simp only [Option.some.injEq, Prod.mk.injEq, Nat.zero_add] at a3
              obtain ⟨rfl, rfl⟩ := a3
              subst a4
              have hck' := qval_run P hck w
              have hfk' := qval_run P g1 w
              rw [a1] at h
              simp only at h
              have a2' : es'[j]? = some e' := by simpa using a2
              obtain ⟨q1, q2, q3, q4⟩ := h3 j e e' a1 a2'
              have hjl := (Array.getElem?_eq_some_iff.1 a2').1
              cases hsb : Instr.sameBits 10000 e.key (ρ k) with
              | false => rw [hsb] at h; cases h
              | true =>
                rw [hsb] at h
                simp only [Option.some.injEq] at h
                subst h
                have g := Goes.setObj hr hi hs hso (.map (es'.modify j fun e => { e with key := ρ k, val := ρ' y }) clock) (o' := .map (es.set j { key := ρ k, val := ρ y, born := e.born }) clock) (fun w' hw => ⟨hso, _, hw, by simpa using h2, fun m x1 x2 b1 b2 => ?_⟩)
                · refine ⟨β, undef, _, ⟨.skip, hrun _ ?_, .inr ⟨rfl, rfl⟩⟩, vr_undef β, g, fun _ _ => rfl, rfl⟩
                  simp only [Instr.mapUpdate, Sem.run_bind, run_underlying' ht, Result.andThen_ok, hget, ek, hck', hfk', Nat.zero_add]
                  simp only [a2', Option.map_some, Option.getD_some, q2, Instr.keyThatStays, hsb, if_true, Sem.run_pure, Result.andThen_ok, hset]
                · rw [List.getElem?_set] at b1
                  rw [Array.getElem?_modify] at b2
                  by_cases e1 : j = m
                  · subst e1
                    rw [if_pos rfl] at b1 b2
                    rw [a2'] at b2
                    simp only [Option.map_some, Option.some.injEq] at b2
                    split at b1
                    · cases b1; subst b2
                      exact ⟨hf, rfl, q3, hy⟩
                    · cases b1
                  · rw [if_neg e1] at b1 b2
                    exact h3 m x1 x2 b1 b2
          · rename_i u hck hfk
            obtain ⟨r', g1, g2⟩ := findKey_same P kt (ρ k) es es'.toList _ hsk hfk
            rcases g2 with ⟨_, g2⟩ | ⟨j0, e, e', a1, a2, a3, a4⟩
            · subst g2
              have hck' := qval_run P hck w
              have hfk' := qval_run P g1 w
              simp only [Option.some.injEq] at h
              subst h
              have g := Goes.setObj hr hi hs hso (.map (es'.push { key := ρ k, val := ρ' y, born := clock }) (clock + 1)) (o' := .map (es ++ [{ key := ρ k, val := ρ y, born := clock }]) (clock + 1)) (fun w' hw => ⟨hso, _, hw, by simp [h2], fun m x1 x2 b1 b2 => ?_⟩)
              · refine ⟨β, undef, _, ⟨.skip, hrun _ ?_, .inr ⟨rfl, rfl⟩⟩, vr_undef β, g, fun _ _ => rfl, rfl⟩
                simp only [Instr.mapUpdate, Sem.run_bind, run_underlying' ht, Result.andThen_ok, hget, ek, hck', hfk', hset]
              · rw [Array.getElem?_push] at b2
                by_cases e1 : m = es'.size
                · rw [if_pos e1] at b2
                  rw [List.getElem?_append_right (by omega)] at b1
                  have : m - es.length = 0 := by omega
                  rw [this] at b1
                  cases b1; cases b2
                  exact ⟨hf, rfl, rfl, hy⟩
                · rw [if_neg e1] at b2
                  have hlt := (Array.getElem?_eq_some_iff.1 b2).1
                  rw [List.getElem?_append_left (by omega)] at b1
                  exact h3 m x1 x2 b1 b2
            · cases a3
          · cases h
      · cases h
  · cases h

theorem goes_newMap {β : Ren} {H : AHeap} {w : World} (hr : Rel β H w) {fid : Nat} (hf : β fid = none) (hn : fid < H.next) : Goes β H w (β.put fid ⟨w.heap.size, 0, 0, 0, true⟩) (H.add fid (.map [] 0)) (w.alloc (.map #[] 0)) :=
  Goes.alloc hr fid hf (.map #[] 0) (.map [] 0) ⟨w.heap.size, 0, 0, 0, true⟩ rfl rfl (fun _ _ _ => ⟨rfl, #[], heap_alloc_new w _, rfl, fun j e e' a => by simp at a⟩) H.next hn (Nat.le_refl _)
theorem fits_makeMap {P : Program} {o : Oper} {ρ : Operand → Value} {t : TypeId} (ho : o.op = .makeMap t none) (fid : Nat) (H : AHeap) : Fits P o ρ fid H (.map (some fid)) (H.add fid (.map [] 0)) := by
  intro β w ρ' hr hf hn _
  refine ⟨_, .map (some w.heap.size), _, ⟨_, ?_, .inl rfl⟩, .map (s := ⟨w.heap.size, 0, 0, 0, true⟩) (Ren.put_same ..), goes_newMap hr hf hn, put_other, rfl⟩
  simp [execOp, ho, Instr.makeMap]

/-! ### how long -/
def aLen (P : Program) (t : TypeId) (x : Value) (H : AHeap) : Option Value :=
  match P.underlying t, x with
  | some (.slice _), .slice _ n _ => some (.int .i64 n)
  | some (.map _ _), x => (entriesOf x H).map fun es => .int .i64 es.length
  | some (.array n _), _ => some (.int .i64 n)
  | _, _ => none
theorem fits_len {P : Program} {o : Oper} {ρ : Operand → Value} {t : TypeId} {x : Operand} {v : Value} (ho : o.op = .call { callee := .builtin .len, args := #[x], argTypes := #[t] }) (fid : Nat) (H : AHeap) (h : aLen P t (ρ x) H = some v) : Fits P o ρ fid H v H := by
  refine fits_value fid H fun β w ρ' hr hρ => ?_
  have hx := hρ x (by simp [ho, Op.operands, Call.operands])
  have hrun : ∀ v', (Builtin.len_ #[t] o.type #[ρ' x]).run P w = .ok v' w → (execOp ρ' o).run P w = .ok (.value v') w := fun v' he => by
    simp [execOp, ho, resolve, invoke, builtin, he]
  unfold aLen at h
  split at h
  · rename_i el a n c ht hxx
    cases h
    rw [hxx] at hx
    generalize hq : ρ' x = q at hx hrun
    refine ⟨.int .i64 n, hrun _ ?_, .int _ _⟩
    cases hx <;> simp [Builtin.len_, run_underlying' ht, goInt]
  · rename_i kt el x0 ht
    obtain ⟨es, hes, rfl⟩ := Option.map_eq_some_iff.1 h
    unfold entriesOf at hes
    split at hes
    · rename_i hxx
      cases hes
      rw [hxx] at hx
      generalize hq : ρ' x = q at hx hrun
      cases hx
      exact ⟨.int .i64 0, hrun _ (by simp [Builtin.len_, run_underlying' ht, goInt]), .int _ _⟩
    · rename_i i hxx
      split at hes
      · rename_i es2 clock hi
        cases hes
        rw [hxx] at hx
        generalize hq : ρ' x = q at hx hrun
        cases hx with
        | @map _ s hs =>
          obtain ⟨_, es', h1, h2, _⟩ := hr.obj _ _ _ hi hs
          have hget := run_getObj' (P := P) h1 (by intro c e f hh; cases hh)
          exact ⟨.int .i64 es.length, hrun _ (by simp [Builtin.len_, run_underlying' ht, hget, goInt, h2]), .int _ _⟩
      · cases hes
    · cases hes
  · rename_i x0 n el ht
    cases h
    exact ⟨.int .i64 n, hrun _ (by simp [Builtin.len_, run_underlying' ht, goInt]), .int _ _⟩
  · cases h

/-! ### against nil -/
def isNilV : Value → Option Bool
  | .pointer a => some a.isNone
  | .map a => some a.isNone
  | .slice a _ _ => some a.isNone
  | .nilFunc => some true
  | .func _ _ _ => some false
  | _ => none
def isNilConst : Value → Bool
  | .pointer none | .map none | .slice none _ _ | .nilFunc => true
  | _ => false
def kindFits : Option TypeDesc → Value → Bool
  | some (.pointer _), .pointer _ | some (.map _ _), .map _ | some (.slice _), .slice _ _ _ | some (.func _ _ _), .nilFunc | some (.func _ _ _), .func _ _ _ => true
  | _, _ => false
/-- an interface's value against nil -/
def aIfEq (P : Program) (op : BinOp) (t : TypeId) (x y : Value) : Option Value := match P.underlying t, x, y with
  | some (.interface _), .iface _ _, .nilIface | some (.interface _), .nilIface, .iface _ _ => match op with
    | .eql => some (.bool false)
    | .neq => some (.bool true)
    | _ => none
  | _, _, _ => none
def aNilEq0 (P : Program) (op : BinOp) (t : TypeId) (x y : Value) : Option Value :=
  cond (kindFits (P.underlying t) x && (kindFits (P.underlying t) y && (isNilConst x || isNilConst y))) (match isNilV x, isNilV y with
    | some a, some b => match op with
      | .eql => some (.bool (a && b))
      | .neq => some (.bool (!(a && b)))
      | _ => none
    | _, _ => none) none
def aNilEq (P : Program) (op : BinOp) (t : TypeId) (x y : Value) : Option Value := match aNilEq0 P op t x y with
  | some v => some v
  | none => aIfEq P op t x y
theorem isNil_vr {β : Ren} {v v' : Value} (h : VR β v v') : isNilV v' = isNilV v ∧ isNilConst v' = isNilConst v ∧ ∀ d, kindFits d v' = kindFits d v := by
  cases h <;> refine ⟨rfl, rfl, fun d => ?_⟩ <;> (cases d <;> first | rfl | (rename_i d; cases d <;> rfl))
theorem run_nilEqIn {P : Program} (d0 : Nat) {t : TypeId} {x y : Value} {a b : Bool} (hx : kindFits (P.underlying t) x = true) (hy : kindFits (P.underlying t) y = true) (hn : (isNilConst x || isNilConst y) = true) (ha : isNilV x = some a) (hb : isNilV y = some b) (w : World) :
    (Op.equalIn (d0 + 1) t x y).run P w = .ok (a && b) w := by
  cases hd : P.underlying t with
  | none => rw [hd] at hx; cases x <;> cases hx
  | some d =>
    rw [hd] at hx hy
    have hd' := run_underlying' hd w
    cases d <;> cases x <;> first
      | (cases hx; done)
      | (cases y <;> first
          | (cases hy; done)
          | (simp only [isNilV, Option.some.injEq] at ha hb
             subst ha hb
             simp only [Op.equalIn, Sem.run_bind, hd', Result.andThen_ok]
             first
               | rfl
               | (rename_i p q; cases p <;> cases q <;> first | rfl | (simp [isNilConst] at hn; done))
               | (rename_i p _ _ q _ _; cases p <;> cases q <;> first | rfl | (simp [isNilConst] at hn; done))
               | (simp [isNilConst] at hn; done)))
theorem run_nilEq {P : Program} {t : TypeId} {x y : Value} {a b : Bool} (hx : kindFits (P.underlying t) x = true) (hy : kindFits (P.underlying t) y = true) (hn : (isNilConst x || isNilConst y) = true) (ha : isNilV x = some a) (hb : isNilV y = some b) (w : World) :
    (Op.equal t x y).run P w = .ok (a && b) w := run_nilEqIn 9999 hx hy hn ha hb w
theorem fits_nilEq0 {P : Program} {o : Oper} {ρ : Operand → Value} {op : BinOp} {t u : TypeId} {x y : Operand} {v : Value} (ho : o.op = .binOp op t x y u) (fid : Nat) (H : AHeap) (h : aNilEq0 P op t (ρ x) (ρ y) = some v) : Fits P o ρ fid H v H := by
  refine fits_value fid H fun β w ρ' hr hρ => ?_
  have hx := isNil_vr (hρ x (by simp [ho, Op.operands]))
  have hy := isNil_vr (hρ y (by simp [ho, Op.operands]))
  unfold aNilEq0 at h
  cases hc : (kindFits (P.underlying t) (ρ x) && (kindFits (P.underlying t) (ρ y) && (isNilConst (ρ x) || isNilConst (ρ y)))) with
  | false => rw [hc] at h; cases h
  | true =>
    rw [hc] at h
    simp only [cond] at h
    simp only [Bool.and_eq_true] at hc
    obtain ⟨c1, c2, c3⟩ := hc
    split at h
    · rename_i a b ha hb
      have he := run_nilEq (P := P) (t := t) (x := ρ' x) (y := ρ' y) (a := a) (b := b) (by rw [hx.2.2]; exact c1) (by rw [hy.2.2]; exact c2) (by rw [hx.2.1, hy.2.1]; exact c3) (by rw [hx.1]; exact ha) (by rw [hy.1]; exact hb) w
      have k1 : kindFits (P.underlying t) (ρ' x) = true := by rw [hx.2.2]; exact c1
      have k2 : kindFits (P.underlying t) (ρ' y) = true := by rw [hy.2.2]; exact c2
      have hg : ∀ op, (eqGuard op t x y (ρ' x) (ρ' y)).run P w = .ok () w := fun op => by
        generalize ρ' x = X at k1; generalize ρ' y = Y at k2
        cases hd : P.underlying t with
        | none => rw [hd] at k1; cases X <;> cases k1
        | some d =>
          rw [hd] at k1 k2
          cases d <;> cases X <;> first
            | (cases k1; done)
            | (cases Y <;> first | (cases k2; done) | (cases op <;> rfl))
      split at h
      · cases h
        refine ⟨.bool (a && b), ?_, .bool _⟩
        simp only [execOp, ho, Sem.run_bind, hg, Result.andThen_ok]
        have hbin : (binOp .eql t (ρ' x) (ρ' y)) = (do pure (.bool (← Op.equal t (ρ' x) (ρ' y)))) := by
          generalize ρ' x = X at k1; generalize ρ' y = Y at k2
          cases hd : P.underlying t with
          | none => rw [hd] at k1; cases X <;> cases k1
          | some d => rw [hd] at k1 k2; cases d <;> cases X <;> first | (cases k1; done) | (cases Y <;> first | (cases k2; done) | rfl)
        rw [hbin]
        simp only [Sem.run_bind, he, Result.andThen_ok, Sem.run_pure]
      · cases h
        refine ⟨.bool (!(a && b)), ?_, .bool _⟩
        simp only [execOp, ho, Sem.run_bind, hg, Result.andThen_ok]
        have hbin : (binOp .neq t (ρ' x) (ρ' y)) = (do pure (.bool (!(← Op.equal t (ρ' x) (ρ' y))))) := by
          generalize ρ' x = X at k1; generalize ρ' y = Y at k2
          cases hd : P.underlying t with
          | none => rw [hd] at k1; cases X <;> cases k1
          | some d => rw [hd] at k1 k2; cases d <;> cases X <;> first | (cases k1; done) | (cases Y <;> first | (cases k2; done) | rfl)
        rw [hbin]
        simp only [Sem.run_bind, he, Result.andThen_ok, Sem.run_pure]
      · cases h
    · cases h
theorem fits_ifEq {P : Program} {o : Oper} {ρ : Operand → Value} {op : BinOp} {t u : TypeId} {x y : Operand} {v : Value} (ho : o.op = .binOp op t x y u) (fid : Nat) (H : AHeap) (h : aIfEq P op t (ρ x) (ρ y) = some v) : Fits P o ρ fid H v H := by
  refine fits_value fid H fun β w ρ' hr hρ => ?_
  have hx := hρ x (by simp [ho, Op.operands])
  have hy := hρ y (by simp [ho, Op.operands])
  unfold aIfEq at h
  have key : ∀ (X Y : Value) (ms : Array (String × TypeId)), P.underlying t = some (.interface ms) → ρ' x = X → ρ' y = Y → (∀ op, (eqGuard op t x y X Y).run P w = .ok () w) → (∀ d, (Op.equalIn (d + 1) t X Y).run P w = .ok false w) →
      (binOp .eql t X Y = (do pure (.bool (← Op.equal t X Y)))) → (binOp .neq t X Y = (do pure (.bool (!(← Op.equal t X Y))))) →
      ((op = .eql ∧ v = .bool false) ∨ (op = .neq ∧ v = .bool true)) → ∃ v', (execOp ρ' o).run P w = .ok (.value v') w ∧ VR β v v' := by
    intro X Y ms hu h1 h2 hg he hb1 hb2 hop
    have he' : (Op.equal t X Y).run P w = .ok false w := he 9999
    rcases hop with ⟨rfl, rfl⟩ | ⟨rfl, rfl⟩
    · refine ⟨.bool false, ?_, .bool _⟩
      simp only [execOp, ho, Sem.run_bind, h1, h2, hg, Result.andThen_ok, hb1, he', Sem.run_pure]
    · refine ⟨.bool true, ?_, .bool _⟩
      simp only [execOp, ho, Sem.run_bind, h1, h2, hg, Result.andThen_ok, hb2, he', Sem.run_pure]; rfl
  split at h
  · rename_i ms tx vx hu e1 e2
    rw [e1] at hx; rw [e2] at hy
    generalize hX : ρ' x = X at hx; generalize hY : ρ' y = Y at hy
    cases hx; cases hy
    exact key _ _ ms hu hX hY (fun op => by cases op <;> rfl) (fun d => by simp only [Op.equalIn, Sem.run_bind, run_underlying' hu w, Result.andThen_ok]; rfl) rfl rfl (by cases op <;> first | (cases h; done) | (cases h; exact .inl ⟨rfl, rfl⟩) | (cases h; exact .inr ⟨rfl, rfl⟩))
  · rename_i ms tx vx hu e1 e2
    rw [e1] at hx; rw [e2] at hy
    generalize hX : ρ' x = X at hx; generalize hY : ρ' y = Y at hy
    cases hx; cases hy
    exact key _ _ ms hu hX hY (fun op => by cases op <;> rfl) (fun d => by simp only [Op.equalIn, Sem.run_bind, run_underlying' hu w, Result.andThen_ok]; rfl) rfl rfl (by cases op <;> first | (cases h; done) | (cases h; exact .inl ⟨rfl, rfl⟩) | (cases h; exact .inr ⟨rfl, rfl⟩))
  · cases h
theorem fits_nilEq {P : Program} {o : Oper} {ρ : Operand → Value} {op : BinOp} {t u : TypeId} {x y : Operand} {v : Value} (ho : o.op = .binOp op t x y u) (fid : Nat) (H : AHeap) (h : aNilEq P op t (ρ x) (ρ y) = some v) : Fits P o ρ fid H v H := by
  unfold aNilEq at h
  split at h
  · rename_i v' h'
    cases h
    exact fits_nilEq0 ho fid H h'
  · exact fits_ifEq ho fid H h
end Go.Proofs.Ytmflapajjghpmaa
