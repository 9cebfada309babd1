/- The abstract machine's operations: clear, delete, copy, bytes as a string. -/
import Derived.Test.YtmflapajjghpmaaAmOp5
import Derived.Laws.BytesString
namespace Go.Proofs.Ytmflapajjghpmaa
open Go.RowKit

/-! ### delete -/
def aDelete (P : Program) (t : TypeId) (x key : Value) (H : AHeap) : Option AHeap :=
  match P.underlying t with
  | some (.map kt _) => cond (flat2 key) (match x with
    | .map none => match qval P (Instr.checkKey true 10000 kt key) with
      | some _ => some H
      | none => none
    | .map (some i) => match H.get i with
      | some (.map es clock) => match qval P (Instr.checkKey es.isEmpty 10000 kt key), qval P (Instr.findKey kt key es) with
        | some _, some (some (j, _)) => some (H.upd i (some (.map (es.eraseIdx j) clock)))
        | some _, some none => some (H.upd i (some (.map es clock)))
        | _, _ => none
      | _ => none
    | _ => none) none
  | _ => none
theorem empty_same {es : List MapEntry} {es' : Array MapEntry} (h : es'.size = es.length) : es'.isEmpty = es.isEmpty := by
  cases es with
  | nil => have : es'.size = 0 := h; simp [Array.isEmpty, this]
  | cons a l => have : es'.size = l.length + 1 := h; simp [Array.isEmpty, this]
theorem fits_delete {P : Program} {o : Oper} {ρ : Operand → Value} {t u : TypeId} {x k : Operand} {H' : AHeap} (ho : o.op = .call { callee := .builtin .delete, args := #[x, k], argTypes := #[t, u] }) (fid : Nat) (H : AHeap) (h : aDelete P t (ρ x) (ρ k) H = some H') : Fits P o ρ fid H undef H' := by
  intro β w ρ' hr _ _ hρ
  have hx := hρ x (by simp [ho, Op.operands, Call.operands])
  have hk := hρ k (by simp [ho, Op.operands, Call.operands])
  have hrun : ∀ w', (Builtin.delete_ #[t, u] o.type #[ρ' x, ρ' k]).run P w = .ok (.tuple #[]) w' → (execOp ρ' o).run P w = .ok (.value undef) w' := fun w' he => by
    simp [execOp, ho, resolve, invoke, builtin, he, undef]
  unfold aDelete at h
  split at h
  · rename_i kt el ht
    cases hf : flat2 (ρ k) with
    | false => rw [hf] at h; cases h
    | true =>
      rw [hf] at h
      simp only [cond] at h
      have ek : ρ' k = ρ k := (flat2_vr hf β).2 _ hk
      split at h
      · rename_i hxx
        rw [hxx] at hx
        generalize hq : ρ' x = q at hx hrun
        cases hx
        split at h
        · rename_i u0 hck
          cases h
          have hck' := qval_run P hck w
          refine ⟨β, undef, w, ⟨_, hrun _ ?_, .inl rfl⟩, vr_undef β, .refl hr, fun _ _ => rfl, rfl⟩
          simp [Builtin.delete_, run_underlying' ht, ek, hck']
        · cases h
      · rename_i i hxx
        split at h
        · rename_i es clock hi
          rw [hxx] at hx
          generalize hq : ρ' x = q at hx hrun
          cases hx with
          | @map _ s hs =>
            obtain ⟨hso, es', h1, h2, h3⟩ := hr.obj _ _ _ hi hs
            have hsk := entries_same h2 h3
            have hemp := empty_same h2
            have hget := run_getObj' (P := P) h1 (by intro c e f hh; cases hh)
            have hset : ∀ O', (setObj s.blk O').run P w = .ok () { w with heap := w.heap.setIfInBounds s.blk O' } := fun O' => run_setObj' (P := P) h1 (by intro c e f hh; cases hh)
            split at h
            · rename_i u0 j v0 hck hfk
              obtain ⟨r', g1, g2⟩ := findKey_same P kt (ρ k) es es'.toList _ hsk hfk
              rcases g2 with ⟨g2, _⟩ | ⟨j0, e, e', a1, a2, a3, a4⟩
              · cases g2
              · simp only [Option.some.injEq, Prod.mk.injEq, Nat.zero_add] at a3
                obtain ⟨rfl, rfl⟩ := a3
                subst a4
                have hck' := qval_run P hck w
                have hfk' := qval_run P g1 w
                simp only [Option.some.injEq] at h
                subst h
                have hjl : j < es.length := (List.getElem?_eq_some_iff.1 a1).1
                have g := Goes.setObj hr hi hs hso (.map (es'.eraseIdxIfInBounds j) clock) (o' := .map (es.eraseIdx j) clock) (fun w' hw => ⟨hso, _, hw, by
                  simp [Array.eraseIdxIfInBounds, show j < es'.size by omega, List.length_eraseIdx, hjl, h2], fun m x1 x2 b1 b2 => by
                  have b3 : (es'.toList.eraseIdx j)[m]? = some x2 := by
                    have : (es'.eraseIdxIfInBounds j).toList = es'.toList.eraseIdx j := by simp [Array.eraseIdxIfInBounds, show j < es'.size by omega]
                    rw [← this, Array.getElem?_toList]; exact b2
                  rw [List.getElem?_eraseIdx] at b1 b3
                  by_cases e1 : m < j
                  · rw [if_pos e1] at b1 b3; exact h3 m x1 x2 b1 (by simpa using b3)
                  · rw [if_neg e1] at b1 b3; exact h3 (m + 1) x1 x2 b1 (by simpa using b3)⟩)
                refine ⟨β, undef, _, ⟨_, hrun _ ?_, .inl rfl⟩, vr_undef β, g, fun _ _ => rfl, rfl⟩
                simp only [Builtin.delete_, Sem.run_bind, run_underlying' ht, Result.andThen_ok, hget, ek, hemp, hck', hfk', Nat.zero_add, hset, Sem.run_pure, List.getElem?_toArray, List.getElem?_cons_zero, List.getElem?_cons_succ]
            · rename_i u0 hck hfk
              obtain ⟨r', g1, g2⟩ := findKey_same P kt (ρ k) es es'.toList _ hsk hfk
              rcases g2 with ⟨_, g2⟩ | ⟨j0, e, e', a1, a2, a3, a4⟩
              · subst g2
                have hck' := qval_run P hck w
                have hfk' := qval_run P g1 w
                simp only [Option.some.injEq] at h
                subst h
                have g := Goes.setObj hr hi hs hso (.map es' clock) (o' := .map es clock) (fun w' hw => ⟨hso, _, hw, h2, h3⟩)
                refine ⟨β, undef, _, ⟨_, hrun _ ?_, .inl rfl⟩, vr_undef β, g, fun _ _ => rfl, rfl⟩
                simp only [Builtin.delete_, Sem.run_bind, run_underlying' ht, Result.andThen_ok, hget, ek, hemp, hck', hfk', hset, Sem.run_pure, List.getElem?_toArray, List.getElem?_cons_zero, List.getElem?_cons_succ]
              · cases a3
            · cases h
        · cases h
      · cases h
  · cases h

/-! ### clear -/
def aClear (P : Program) (t : TypeId) (x : Value) (H : AHeap) : Option AHeap :=
  match x with
  | .map none => some H
  | .slice none _ _ => some H
  | .slice _ 0 _ => some H
  | .map (some i) => match H.get i with
    | some (.map _ clock) => some (H.upd i (some (.map [] clock)))
    | _ => none
  | .slice (some ⟨i, o, none⟩) (n + 1) _ => match P.underlying t with
    | some (.slice el) => match P.info? el, H.get i with
      | some inf, some (.row cells elem esz true) => match inf.zero with
        | some z => cond (flat2 z) (aStoreCells i elem esz H cells o (Builtin.zeroCells z.cells (n + 1)).toList) none
        | none => none
      | _, _ => none
    | _ => none
  | _ => none
theorem fits_clear {P : Program} {o : Oper} {ρ : Operand → Value} {t : TypeId} {d : TypeDesc} {x : Operand} {H' : AHeap} (ho : o.op = .call { callee := .builtin .clear, args := #[x], argTypes := #[t] }) (hd : P.underlying t = some d) (fid : Nat) (H : AHeap) (h : aClear P t (ρ x) H = some H') : Fits P o ρ fid H undef H' := by
  intro β w ρ' hr _ _ hρ
  have hx := hρ x (by simp [ho, Op.operands, Call.operands])
  have hrun : ∀ w', (Builtin.clear_ #[t] o.type #[ρ' x]).run P w = .ok (.tuple #[]) w' → (execOp ρ' o).run P w = .ok (.value undef) w' := fun w' he => by
    simp [execOp, ho, resolve, invoke, builtin, he, undef]
  have same : (Builtin.clear_ #[t] o.type #[ρ' x]).run P w = .ok (.tuple #[]) w → H = H' → ∃ β' v' w', (∃ n, (execOp ρ' o).run P w = .ok n w' ∧ (n = .value v' ∨ n = .skip ∧ v' = undef)) ∧ VR β' undef v' ∧ Goes β H w β' H' w' ∧ (∀ i, i ≠ fid → β' i = β i) ∧ H'.next = H.next := fun he e => by
    subst e
    exact ⟨β, undef, w, ⟨_, hrun _ he, .inl rfl⟩, vr_undef β, .refl hr, fun _ _ => rfl, rfl⟩
  unfold aClear at h
  split at h
  · rename_i hxx
    rw [hxx] at hx; generalize ρ' x = q at hx hrun same
    cases hx; cases h
    exact same (by simp [Builtin.clear_, run_underlying' hd]) rfl
  · rename_i n c hxx
    rw [hxx] at hx; generalize ρ' x = q at hx hrun same
    cases hx; cases h
    exact same (by simp [Builtin.clear_, run_underlying' hd]) rfl
  · rename_i a c hxx
    rw [hxx] at hx; generalize ρ' x = q at hx hrun same
    cases h
    cases hx <;> exact same (by simp [Builtin.clear_, run_underlying' hd]) rfl
  · rename_i i hxx
    split at h
    · rename_i es clock hi
      cases h
      rw [hxx] at hx; generalize ρ' x = q at hx hrun same
      cases hx with
      | @map _ s hs =>
        obtain ⟨hso, es', h1, h2, h3⟩ := hr.obj _ _ _ hi hs
        have hget := run_getObj' (P := P) h1 (by intro c e f hh; cases hh)
        have hset : ∀ O', (setObj s.blk O').run P w = .ok () { w with heap := w.heap.setIfInBounds s.blk O' } := fun O' => run_setObj' (P := P) h1 (by intro c e f hh; cases hh)
        have g := Goes.setObj hr hi hs hso (.map #[] clock) (o' := .map [] clock) (fun w' hw => ⟨hso, _, hw, rfl, fun j e e' a => by simp at a⟩)
        refine ⟨β, undef, _, ⟨_, hrun _ ?_, .inl rfl⟩, vr_undef β, g, fun _ _ => rfl, rfl⟩
        simp only [Builtin.clear_, Sem.run_bind, run_underlying' hd, Result.andThen_ok, hget, hset, Sem.run_pure, List.getElem?_toArray, List.getElem?_cons_zero]
    · cases h
  · rename_i i p n c hxx
    split at h
    · rename_i el ht
      split at h
      · rename_i inf cells elem esz hinf hi
        split at h
        · rename_i z hz
          cases hfz : flat2 z with
          | false => rw [hfz] at h; cases h
          | true =>
            rw [hfz] at h
            simp only [cond] at h
            rw [hxx] at hx; generalize ρ' x = q at hx hrun same
            cases hx with
            | @slice _ _ _ _ c' s hs hn hm hc =>
              have hv := arrvr_map (flat_arr (β := β) hfz) ((n + 1) * z.cells.size)
              obtain ⟨w', b1, b2, b3, _⟩ := storeCells_goes (P := P) hs (p := p) (Builtin.zeroCells z.cells (n + 1)).toList (Builtin.zeroCells z.cells (n + 1)).toList H H' w cells p 0 hr hi rfl rfl (fun j x y a b => hv.2 j x y (by rw [← Array.getElem?_toList]; exact a) (by rw [← Array.getElem?_toList]; exact b)) h
              refine ⟨β, undef, w', ⟨_, hrun _ ?_, .inl rfl⟩, vr_undef β, b2, fun _ _ => rfl, b3⟩
              simp only [Builtin.clear_, Sem.run_bind, run_underlying' ht, Result.andThen_ok, run_zeroValue' hinf hz, b1, Sem.run_pure, List.getElem?_toArray, List.getElem?_cons_zero]
        · cases h
      · cases h
    · cases h
  · cases h

/-! ### copy -/
def aCopy (P : Program) (t : TypeId) (x y : Value) (H : AHeap) : Option (Value × AHeap) :=
  match P.underlying t with
  | some (.slice el) => match P.info? el with
    | some inf => match x, y with
      | .slice none 0 0, .slice none 0 0 => some (.int .i64 0, H)
      | .slice none 0 0, .slice (some _) _ _ => some (.int .i64 0, H)
      | .slice (some _) _ _, .slice none 0 0 => some (.int .i64 0, H)
      | .slice (some ⟨i, o, none⟩) n _, .slice (some ⟨j, p, none⟩) m _ => cond (Nat.beq (Nat.min m n) 0) (some (.int .i64 0, H)) (match H.get i, H.get j with
        | some (.row cells elem esz true), some (.row src _ _ _) => match cut src p (Nat.min m n * inf.size) with
          | some l => (aStoreCells i elem esz H cells o l).map fun H' => (.int .i64 (Nat.min m n), H')
          | none => none
        | _, _ => none)
      | _, _ => none
    | none => none
  | _ => none
theorem fits_copy {P : Program} {o : Oper} {ρ : Operand → Value} {t u : TypeId} {x y : Operand} {v : Value} {H' : AHeap} (ho : o.op = .call { callee := .builtin .copy, args := #[x, y], argTypes := #[t, u] }) (fid : Nat) (H : AHeap) (h : aCopy P t (ρ x) (ρ y) H = some (v, H')) : Fits P o ρ fid H v H' := by
  intro β w ρ' hr _ _ hρ
  have hx := hρ x (by simp [ho, Op.operands, Call.operands])
  have hy := hρ y (by simp [ho, Op.operands, Call.operands])
  have hrun : ∀ v' w', (Builtin.copy_ #[t, u] o.type #[ρ' x, ρ' y]).run P w = .ok v' w' → (execOp ρ' o).run P w = .ok (.value v') w' := fun v' w' he => by
    simp [execOp, ho, resolve, invoke, builtin, he]
  have same : (Builtin.copy_ #[t, u] o.type #[ρ' x, ρ' y]).run P w = .ok (.int .i64 0) w → ((.int .i64 0, H) : Value × AHeap) = (v, H') → ∃ β' v' w', (∃ n, (execOp ρ' o).run P w = .ok n w' ∧ (n = .value v' ∨ n = .skip ∧ v' = undef)) ∧ VR β' v v' ∧ Goes β H w β' H' w' ∧ (∀ i, i ≠ fid → β' i = β i) ∧ H'.next = H.next := fun he e => by
    cases e
    exact ⟨β, .int .i64 0, w, ⟨_, hrun _ _ he, .inl rfl⟩, .int _ _, .refl hr, fun _ _ => rfl, rfl⟩
  unfold aCopy at h
  split at h
  · rename_i el ht
    split at h
    · rename_i inf hinf
      split at h
      · rename_i hxx hyy
        rw [hxx] at hx; rw [hyy] at hy
        generalize ρ' x = q at hx hrun same; generalize ρ' y = r at hy hrun same
        cases hx; cases hy
        exact same (by simp [Builtin.copy_, run_underlying' ht, Builtin.lenOf, run_sizeOf' hinf, Builtin.firstCells, goInt]) (by simpa using h)
      · rename_i a n c hxx hyy
        rw [hxx] at hx; rw [hyy] at hy
        generalize ρ' x = q at hx hrun same; generalize ρ' y = r at hy hrun same
        cases hx
        cases hy <;> exact same (by simp [Builtin.copy_, run_underlying' ht, Builtin.lenOf, run_sizeOf' hinf, Builtin.firstCells, goInt, loadCells, loadCellsFrom]) (by simpa using h)
      · rename_i a n c hxx hyy
        rw [hxx] at hx; rw [hyy] at hy
        generalize ρ' x = q at hx hrun same; generalize ρ' y = r at hy hrun same
        cases hy
        cases hx <;> exact same (by simp [Builtin.copy_, run_underlying' ht, Builtin.lenOf, run_sizeOf' hinf, Builtin.firstCells, goInt, storeCells]) (by simpa using h)
      · rename_i i p n c j q m d hxx hyy
        rw [hxx] at hx; rw [hyy] at hy
        cases hz : Nat.beq (Nat.min m n) 0 with
        | true =>
          have hz' := Nat.eq_of_beq_eq_true hz
          rw [hz] at h
          generalize ρ' x = q at hx hrun same; generalize ρ' y = r at hy hrun same
          have hz2 : min m n = 0 := hz'
          cases hx <;> cases hy <;> exact same (by simp [Builtin.copy_, run_underlying' ht, Builtin.lenOf, run_sizeOf' hinf, Builtin.firstCells, goInt, loadCells, loadCellsFrom, storeCells, hz2]) (by simpa using h)
        | false =>
          have hz' := Nat.ne_of_beq_eq_false hz
          have hz2 : ¬ min m n = 0 := hz'
          rw [hz] at h
          simp only [cond] at h
          split at h
          · rename_i cells elem esz src el2 esz2 own2 hi hj
            split at h
            · rename_i l hl
              obtain ⟨H1, hst, he⟩ := Option.map_eq_some_iff.1 h
              cases he
              generalize ρ' x = q at hx hrun same; generalize ρ' y = r at hy hrun same
              cases hx with
              | sliceE => omega
              | @slice _ _ _ _ c' s hs hn hm hc =>
                cases hy with
                | sliceE => omega
                | @slice _ _ _ _ d' s2 hs2 hn2 hm2 hc2 =>
                  obtain ⟨l', a1, a2, a3, a4⟩ := rel_piece hr hj hs2 hl
                  have hf := run_firstCells_some (P := P) w inf.size (Nat.min m n) _ m d' l' a1 a3
                  obtain ⟨w', b1, b2, b3, _⟩ := storeCells_goes (P := P) hs (p := p) l l' H _ w cells p 0 hr hi rfl (by omega) a4 hst
                  refine ⟨β, .int .i64 (Nat.min m n), w', ⟨_, hrun _ _ ?_, .inl rfl⟩, .int _ _, b2, fun _ _ => rfl, b3⟩
                  simp only [Builtin.copy_, Sem.run_bind, run_underlying' ht, Result.andThen_ok, Builtin.lenOf, Sem.run_pure, run_sizeOf' hinf, hf, b1, goInt, List.getElem?_toArray, List.getElem?_cons_zero, List.getElem?_cons_succ]
            · cases h
          · cases h
      · cases h
    · cases h
  · cases h

/-! ### bytes as a string -/
def bytesOf : List Value → Option (List Int)
  | [] => some []
  | .int .u8 n :: l => (bytesOf l).map fun r => n :: r
  | _ => none
theorem bytesOf_eq : ∀ (l : List Value) (ns : List Int), bytesOf l = some ns → l = ns.map (Value.int .u8)
  | [], ns, h => by cases h; rfl
  | v :: l, ns, h => by
    unfold bytesOf at h
    split at h
    · cases ‹_ :: _ = []›
    · rename_i n l2 he
      injection he with h1 h2
      subst h1 h2
      obtain ⟨r, hr, rfl⟩ := Option.map_eq_some_iff.1 h
      rw [List.map_cons, ← bytesOf_eq _ r hr]
    · cases h
def aToString (P : Program) (src dst : TypeId) (x : Value) (H : AHeap) : Option Value :=
  match P.underlying src, P.underlying dst with
  | some (.slice e), some .string => match P.underlying e with
    | some (.int .u8) => match x with
      | .slice none 0 0 => some (.string .empty)
      | .slice (some ⟨i, o, none⟩) n _ => cond (Nat.beq n 0) (some (.string .empty)) (match H.get i with
        | some (.row cells _ _ _) => match cut cells o n with
          | some l => (bytesOf l).map fun ns => .string (ns.foldl (fun r n => r.push (UInt8.ofNat n.toNat)) ByteArray.empty)
          | none => none
        | _ => none)
      | _ => none
    | _ => none
  | _, _ => none
theorem fits_toString {P : Program} {o : Oper} {ρ : Operand → Value} {src dst : TypeId} {x : Operand} {v : Value} (ho : o.op = .convert src dst x) (fid : Nat) (H : AHeap) (h : aToString P src dst (ρ x) H = some v) : Fits P o ρ fid H v H := by
  refine fits_value fid H fun β w ρ' hr hρ => ?_
  have hx := hρ x (by simp [ho, Op.operands])
  have hrun : ∀ v', (convert src dst (ρ' x)).run P w = .ok v' w → (execOp ρ' o).run P w = .ok (.value v') w := fun v' he => by
    simp only [execOp, ho, Sem.run_bind, he, Result.andThen_ok, Sem.run_pure]
  unfold aToString at h
  split at h
  · rename_i e hs hd
    split at h
    · rename_i he
      have hconv : ∀ a l c, (convert src dst (.slice a l c)).run P w = (Conv.bytesToString (.slice a l c)).run P w := fun a l c => run_convert_bytes_string w src dst e a l c hs he hd
      split at h
      · rename_i hxx
        rw [hxx] at hx; generalize ρ' x = q at hx hrun
        cases hx; cases h
        exact ⟨.string .empty, hrun _ (by rw [hconv]; simp [Conv.bytesToString]), .string _⟩
      · rename_i i p n c hxx
        rw [hxx] at hx; generalize ρ' x = q at hx hrun
        cases hz : Nat.beq n 0 with
        | true =>
          have := Nat.eq_of_beq_eq_true hz; subst this
          rw [hz] at h; cases h
          have h0 : ∀ a c, (Conv.bytesToString (.slice (some a) 0 c)).run P w = .ok (.string .empty) w := fun a c => by
            have := run_bytesToString (P := P) w a 0 c [] (by simp [loadCells, loadCellsFrom])
            simpa using this
          cases hx <;> exact ⟨.string .empty, hrun _ (by rw [hconv, h0]), .string _⟩
        | false =>
          have hz' := Nat.ne_of_beq_eq_false hz
          rw [hz] at h
          simp only [cond] at h
          split at h
          · rename_i cells elem esz own hi
            split at h
            · rename_i l hl
              obtain ⟨ns, hns, rfl⟩ := Option.map_eq_some_iff.1 h
              have hle := bytesOf_eq l ns hns
              cases hx with
              | sliceE => omega
              | @slice _ _ _ _ c' s hs2 hn hm hc =>
                obtain ⟨l', a1, a2, a3, a4⟩ := rel_piece hr hi hs2 hl
                have hl' : l' = ns.map (Value.int .u8) := by
                  apply List.ext_getElem?
                  intro j
                  by_cases hj : j < n
                  · have e1 : l[j]? = some (l[j]'(by omega)) := by simp
                    have e2 : l'[j]? = some (l'[j]'(by omega)) := by simp
                    have hv := a4 j _ _ e1 e2
                    rw [e2]
                    have e3 : (ns.map (Value.int .u8))[j]? = some (l[j]'(by omega)) := by rw [← hle]; exact e1
                    rw [e3]
                    rw [List.getElem?_map] at e3
                    obtain ⟨m, _, hm2⟩ := Option.map_eq_some_iff.1 e3
                    rw [← hm2] at hv ⊢
                    generalize l'[j]'(by omega) = u at hv ⊢
                    cases hv; rfl
                  · rw [List.getElem?_eq_none (by omega), List.getElem?_eq_none (by rw [← hle]; omega)]
                have hload := run_loadCells_list (P := P) w _ l' a3
                rw [a1, hl'] at hload
                exact ⟨_, hrun _ (by rw [hconv]; exact run_bytesToString w _ n c' ns hload), .string _⟩
            · cases h
          · cases h
      · cases h
    · cases h
  · cases h
end Go.Proofs.Ytmflapajjghpmaa
