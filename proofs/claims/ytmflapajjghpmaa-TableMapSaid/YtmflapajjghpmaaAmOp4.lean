/- The abstract machine's operations on slices and maps, further. -/
import Derived.Test.YtmflapajjghpmaaAmOp3
import Derived.WalkSpells
import Derived.Laws.Pointers
namespace Go.Proofs.Ytmflapajjghpmaa
open Go.RowKit

/-! ### a slice of parts -/
def aBuildSlice (P : Program) (ρ : Operand → Value) (t : TypeId) (len : Nat) (parts : Array (Nat × Operand)) (fid : Nat) (H : AHeap) : Option (Value × AHeap) :=
  match P.underlying t with
  | some (.slice el) => match P.info? el with
    | some inf => match inf.zero with
      | some z => cond (flat2 z && (Nat.ble (len * inf.size) 16777216 && Nat.ble len 16777216)) (match Instr.fill (fun i => some (i * inf.size, inf.size)) ((Array.range (len * inf.size)).map (z.cells[· % z.cells.size]!)) (parts.map fun (i, x) => (i, ρ x)).toList with
        | some cells => some (.slice (some ⟨fid, 0, none⟩) len (len + 1), newRowA fid cells.toList el inf.size H)
        | none => none) none
      | none => none
    | none => none
  | _ => none
theorem arrvr_map {β : Ren} {z : Array Value} (h : ArrVR β z z) (n : Nat) : ArrVR β ((Array.range n).map (z[· % z.size]!)) ((Array.range n).map (z[· % z.size]!)) := by
  refine ⟨rfl, fun j x y hx hy => ?_⟩
  rw [hx] at hy; cases hy
  rw [Array.getElem?_map] at hx
  obtain ⟨i, _, rfl⟩ := Option.map_eq_some_iff.1 hx
  by_cases hz : z.size = 0
  · have hz2 : z = #[] := Array.eq_empty_of_size_eq_zero hz
    subst hz2
    simp only [Array.size_empty, Nat.mod_zero]
    rw [getElem!_neg _ _ (by simp)]
    exact .bool false
  · have hlt : i % z.size < z.size := Nat.mod_lt _ (by omega)
    rw [getElem!_pos z _ hlt]
    exact h.2 (i % z.size) _ _ (by simp [hlt]) (by simp [hlt])
theorem fits_buildSlice {P : Program} {o : Oper} {ρ : Operand → Value} {t : TypeId} {n : Nat} {ps : Array (Nat × Operand)} {v : Value} {H' : AHeap} (ho : o.op = .buildSlice t n ps) (fid : Nat) (H : AHeap) (h : aBuildSlice P ρ t n ps fid H = some (v, H')) : Fits P o ρ fid H v H' := by
  intro β w ρ' hr hf hfn hρ
  have hp := parts_vr (β := β) (ρ := ρ) (ρ' := ρ') ps fun p hp => hρ p.2 (by simp only [ho, Op.operands]; simp only [List.mem_toArray, List.mem_map]; exact ⟨p, hp, rfl⟩)
  unfold aBuildSlice at h
  split at h
  · rename_i el ht
    split at h
    · rename_i inf hinf
      split at h
      · rename_i z hz
        cases hc : (flat2 z && (Nat.ble (n * inf.size) 16777216 && Nat.ble n 16777216)) with
        | false => rw [hc] at h; cases h
        | true =>
          rw [hc] at h
          simp only [cond] at h
          rw [Bool.and_eq_true, Bool.and_eq_true, Nat.ble_eq, Nat.ble_eq] at hc
          split at h
          · rename_i cells hcells
            simp only [Option.some.injEq, Prod.mk.injEq] at h
            obtain ⟨rfl, rfl⟩ := h
            obtain ⟨r', h2, h3⟩ := fill_vr (β := β) _ _ _ _ _ cells hp (arrvr_map (flat_arr hc.1) _) hcells
            have g := goes_newRow hr hf hfn (cells := cells.toList) (cells' := r'.toList) [] el inf.size (by simpa using h3.1) (by simpa using h3.2)
            refine ⟨_, .slice (some ⟨w.heap.size, 0, none⟩) n n, _, ⟨_, ?_, .inl rfl⟩, .slice (s := ⟨w.heap.size, 0, inf.size, (r'.toList ++ []).length, true⟩) (Ren.put_same ..) (Nat.le_refl _) ?_ (.inl rfl), g, put_other, rfl⟩
            · have hsz : ¬ (16777216 < n * inf.size) := by omega
              simp only [execOp, ho, Instr.buildSlice, Sem.run_bind, run_underlying' ht, Result.andThen_ok, run_sizeOf' hinf]
              simp only [show (2 : Nat) ^ 24 = 16777216 from rfl, gt_iff_lt, hsz, if_false, Sem.run_pure]
              by_cases h0 : n * inf.size = 0
              · rw [h0] at h2
                simp only [h0, if_true]
                have e0 : Array.range 0 = #[] := rfl
                simp only [e0, Array.map_empty] at h2 ⊢
                simp only [Sem.run_pure, Sem.run_bind, Result.andThen_ok, h2, newRow, run_newObj]
                simp
              · simp only [h0, if_false]
                simp only [Sem.run_pure, Sem.run_bind, Result.andThen_ok, run_zeroValue' hinf hz, h2, newRow, run_newObj]
                simp
            · have := hc.2.2; omega
          · cases h
      · cases h
    · cases h
  · cases h

/-! ### make of a slice -/
def aMakeSlice (P : Program) (t : TypeId) (l c : Value) (fid : Nat) (H : AHeap) : Option (Value × AHeap) :=
  match l, c with
  | .int _ (.ofNat l), .int _ (.ofNat c) => match P.underlying t with
    | some (.slice el) => match P.info? el with
      | some inf => match inf.zero with
        | some z => cond (flat2 z && (Nat.ble l c && (Nat.ble (inf.bytes * c) 281474976710656 && Nat.ble c 16777216))) (some (.slice (some ⟨fid, 0, none⟩) l (c + 1), newRowA fid (madeCells z.cells (c * inf.size)).toList el inf.size H)) none
        | none => none
      | none => none
    | _ => none
  | _, _ => none
theorem made_eq (z : Array Value) (n : Nat) : madeCells z n = (Array.range n).map (z[· % z.size]!) := rfl
theorem fits_makeSlice {P : Program} {o : Oper} {ρ : Operand → Value} {t : TypeId} {x y : Operand} {v : Value} {H' : AHeap} (ho : o.op = .makeSlice t x y) (fid : Nat) (H : AHeap) (h : aMakeSlice P t (ρ x) (ρ y) fid H = some (v, H')) : Fits P o ρ fid H v H' := by
  intro β w ρ' hr hf hfn hρ
  have h1 := hρ x (by simp [ho, Op.operands])
  have h2 := hρ y (by simp [ho, Op.operands])
  unfold aMakeSlice at h
  split at h
  · rename_i kl l kc c hx hy
    rw [hx] at h1; rw [hy] at h2
    have e1 : ρ' x = .int kl (.ofNat l) := by generalize ρ' x = u at h1; cases h1; rfl
    have e2 : ρ' y = .int kc (.ofNat c) := by generalize ρ' y = u at h2; cases h2; rfl
    split at h
    · rename_i el ht
      split at h
      · rename_i inf hinf
        split at h
        · rename_i z hz
          cases hc : (flat2 z && (Nat.ble l c && (Nat.ble (inf.bytes * c) 281474976710656 && Nat.ble c 16777216))) with
          | false => rw [hc] at h; cases h
          | true =>
            rw [hc] at h
            simp only [cond, Option.some.injEq, Prod.mk.injEq] at h
            obtain ⟨rfl, rfl⟩ := h
            simp only [Bool.and_eq_true, Nat.ble_eq] at hc
            obtain ⟨hfl, hlc, hby, hcm⟩ := hc
            have hby2 : (inf.bytes : Int) * (Int.ofNat c) ≤ 281474976710656 := by show (inf.bytes : Int) * (c : Int) ≤ _; rw [← Int.natCast_mul]; omega
            have hrun := run_make (P := P) w t el inf z ht hinf hz kl kc (.ofNat l) (.ofNat c) (Int.natCast_nonneg l) (by show (l : Int) ≤ (c : Int); omega) hby2 (by show (c : Int) ≤ _; omega)
            have hv := arrvr_map (flat_arr (β := β) hfl) (c * inf.size)
            have g := goes_newRow hr hf hfn (cells := (madeCells z.cells (c * inf.size)).toList) (cells' := (madeCells z.cells (c * inf.size)).toList) [] el inf.size rfl (by rw [made_eq]; exact fun j x y hx hy => hv.2 j x y (by rw [← Array.getElem?_toList]; exact hx) (by rw [← Array.getElem?_toList]; exact hy))
            refine ⟨_, .slice (some ⟨w.heap.size, 0, none⟩) l c, _, ⟨_, ?_, .inl rfl⟩, .slice (s := ⟨w.heap.size, 0, inf.size, _, true⟩) (Ren.put_same ..) hlc (by omega) (.inl rfl), g, put_other, rfl⟩
            simp only [execOp, ho, e1, e2, Sem.run_bind, hrun, Result.andThen_ok, Sem.run_pure]
            simp
        · cases h
      · cases h
    · cases h
  · cases h

/-! ### a slice of a slice -/
def boundOf : Option Value → Option (Option Nat)
  | none => some none
  | some (.int _ (.ofNat n)) => some (some n)
  | _ => none
def capKnown (size : Nat) (i : Nat) (H : AHeap) : Bool := match H.get i with
  | some (.row _ _ esz own) => !own || Nat.beq esz size
  | _ => false
def aSlice (P : Program) (t : TypeId) (x : Value) (lo hi mx : Option Value) (H : AHeap) : Option Value :=
  match P.underlying t with
  | some (.slice el) => match P.info? el with
    | some inf => match x, boundOf lo, boundOf hi, boundOf mx with
      | .slice none 0 0, some l, some h, some m => cond (Nat.beq (l.getD 0) 0 && (Nat.beq (h.getD 0) 0 && (Nat.beq (m.getD 0) 0 && (m.isNone || h.isSome)))) (some x) none
      | .slice (some ⟨i, o, none⟩) n c, some l, some h, some m => cond (Nat.ble (l.getD 0) (h.getD n) && (Nat.ble (h.getD n) (m.getD n) && (Nat.ble (m.getD n) n && (m.isNone || h.isSome)))) (match m, c with
          | some m, c => cond (Nat.beq c 0 && Nat.beq n 0) none (some (.slice (some ⟨i, cond (Nat.beq m (l.getD 0)) o (o + l.getD 0 * inf.size), none⟩) (h.getD n - l.getD 0) (m - l.getD 0 + 1)))
          | none, 0 => cond (capKnown inf.size i H) (some (cond (Nat.beq (l.getD 0) (h.getD n)) (.slice (some ⟨i, o, none⟩) 0 0) (.slice (some ⟨i, o + l.getD 0 * inf.size, none⟩) (h.getD n - l.getD 0) 0))) none
          | none, c + 1 => some (.slice (some ⟨i, cond (Nat.beq c (l.getD 0)) o (o + l.getD 0 * inf.size), none⟩) (h.getD n - l.getD 0) (c - l.getD 0 + 1))) none
      | _, _, _, _ => none
    | none => none
  | _ => none
theorem boundOf_vr {β : Ren} {ρ ρ' : Operand → Value} {x : Option Operand} {n : Option Nat} (h : boundOf (x.map ρ) = some n) (hv : ∀ y, x = some y → VR β (ρ y) (ρ' y)) : (n = none ∧ x.map ρ' = none) ∨ ∃ k m, n = some m ∧ x.map ρ' = some (.int k (.ofNat m)) := by
  cases x with
  | none => simp only [Option.map_none, boundOf, Option.some.injEq] at h; exact .inl ⟨h.symm, rfl⟩
  | some y =>
    have hy := hv y rfl
    simp only [Option.map_some] at h ⊢
    unfold boundOf at h
    split at h
    · rename_i he; cases he
    · rename_i k m he
      cases h
      simp only [Option.some.injEq] at he
      rw [he] at hy
      generalize ρ' y = u at hy
      cases hy
      exact .inr ⟨k, m, rfl, rfl⟩
    · cases h
theorem run_sliceBounds' {P : Program} (w : World) {lo hi mx : Option Value} {l h m : Option Nat} {n c : Nat} (hl : l = none ∧ lo = none ∨ ∃ k a, l = some a ∧ lo = some (.int k (.ofNat a))) (hh : h = none ∧ hi = none ∨ ∃ k a, h = some a ∧ hi = some (.int k (.ofNat a)))
    (hm : m = none ∧ mx = none ∨ ∃ k a, m = some a ∧ mx = some (.int k (.ofNat a))) (h1 : l.getD 0 ≤ h.getD n) (h2 : h.getD n ≤ m.getD c) (h3 : m.getD c ≤ c) (h4 : m.isSome = true → h.isSome = true) :
    (Instr.sliceBounds true n c lo hi mx).run P w = .ok (l.getD 0, h.getD n, m.getD c) w := by
  have hb : ∀ (k : IntKind) (a y : Nat) (code : BoundsCode), a ≤ y → (Instr.sliceBound (.int k (.ofNat a)) y code).run P w = .ok a w := fun k a y code hay => by
    have := run_sliceBound (P := P) w k (.ofNat a) y code (Int.natCast_nonneg a) (by show (a : Int) ≤ (y : Int); omega)
    simpa using this
  rcases hl with ⟨rfl, rfl⟩ | ⟨kl, la, rfl, rfl⟩ <;> rcases hh with ⟨rfl, rfl⟩ | ⟨kh, ha, rfl, rfl⟩ <;> rcases hm with ⟨rfl, rfl⟩ | ⟨km, ma, rfl, rfl⟩ <;> simp only [Option.getD_none, Option.getD_some] at h1 h2 h3 ⊢ <;> first
    | (simp at h4; done)
    | (simp only [Instr.sliceBounds, Sem.run_bind, Sem.run_pure, Result.andThen_ok]; repeat (first | rw [hb _ _ _ _ (by omega)] | simp only [Result.andThen_ok]))
theorem run_sliceAt' {P : Program} (w : World) {t el : TypeId} {inf : TypeInfo} {lo hi mx : Option Value} {l h m : Nat} {a : Option Addr} {n c : Nat} (ht : P.underlying t = some (.slice el)) (hi' : P.info? el = some inf) (hb : (Instr.sliceBounds true n c lo hi mx).run P w = .ok (l, h, m) w) :
    (Instr.sliceAt t (.slice a n c) lo hi mx).run P w = .ok (.slice (if m = l then a else a.map (·.add (l * inf.size))) (h - l) (m - l)) w := by
  simp only [Instr.sliceAt, Sem.run_bind, run_underlying' ht, Result.andThen_ok, Instr.slice, hb, run_sizeOf' hi', Sem.run_pure]
theorem fits_slice {P : Program} {o : Oper} {ρ : Operand → Value} {t : TypeId} {x : Operand} {lo hi mx : Option Operand} {v : Value} (ho : o.op = .slice t x lo hi mx) (fid : Nat) (H : AHeap) (h : aSlice P t (ρ x) (lo.map ρ) (hi.map ρ) (mx.map ρ) H = some v) : Fits P o ρ fid H v H := by
  refine fits_value fid H fun β w ρ' hr hρ => ?_
  have hx := hρ x (by simp [ho, Op.operands])
  have hvl : ∀ y, lo = some y → VR β (ρ y) (ρ' y) := fun y hy => hρ y (by simp [ho, Op.operands, hy])
  have hvh : ∀ y, hi = some y → VR β (ρ y) (ρ' y) := fun y hy => hρ y (by simp [ho, Op.operands, hy])
  have hvm : ∀ y, mx = some y → VR β (ρ y) (ρ' y) := fun y hy => hρ y (by simp [ho, Op.operands, hy])
  have hrun : ∀ v', (Instr.sliceAt t (ρ' x) (lo.map ρ') (hi.map ρ') (mx.map ρ')).run P w = .ok v' w → (execOp ρ' o).run P w = .ok (.value v') w := fun v' hv => by
    simp only [execOp, ho, Sem.run_bind, hv, Result.andThen_ok, Sem.run_pure]
  unfold aSlice at h
  split at h
  · rename_i el ht
    split at h
    · rename_i inf hinf
      split at h
      · rename_i l hh m hxx hl hhi hm
        rw [hxx] at hx
        have el1 := boundOf_vr hl hvl
        have eh1 := boundOf_vr hhi hvh
        have em1 := boundOf_vr hm hvm
        cases hc : (Nat.beq (l.getD 0) 0 && (Nat.beq (hh.getD 0) 0 && (Nat.beq (m.getD 0) 0 && (m.isNone || hh.isSome)))) with
        | false => rw [hc] at h; cases h
        | true =>
          rw [hc] at h
          simp only [cond, Option.some.injEq] at h
          subst h
          simp only [Bool.and_eq_true, Bool.or_eq_true] at hc
          obtain ⟨c1, c2, c3, c4⟩ := hc
          have c1 := Nat.eq_of_beq_eq_true c1
          have c2 := Nat.eq_of_beq_eq_true c2
          have c3 := Nat.eq_of_beq_eq_true c3
          generalize hq : ρ' x = q at hx hrun
          cases hx
          have hb := run_sliceBounds' (P := P) w (n := 0) (c := 0) el1 eh1 em1 (by omega) (by omega) (by omega) (fun hs => c4.resolve_left (by cases m <;> simp at hs ⊢))
          refine ⟨.slice none 0 0, hrun _ ?_, by rw [hxx]; exact .slice0⟩
          rw [run_sliceAt' w ht hinf hb]
          simp [c1, c2, c3]
      · rename_i i p n c l hh m hxx hl hhi hm
        rw [hxx] at hx
        have el1 := boundOf_vr hl hvl
        have eh1 := boundOf_vr hhi hvh
        have em1 := boundOf_vr hm hvm
        cases hc : (Nat.ble (l.getD 0) (hh.getD n) && (Nat.ble (hh.getD n) (m.getD n) && (Nat.ble (m.getD n) n && (m.isNone || hh.isSome)))) with
        | false => rw [hc] at h; cases h
        | true =>
          rw [hc] at h
          simp only [cond] at h
          simp only [Bool.and_eq_true, Bool.or_eq_true, Nat.ble_eq] at hc
          obtain ⟨c1, c2, c3, c4⟩ := hc
          have c4' : m.isSome = true → hh.isSome = true := fun hs => c4.resolve_left (by cases m <;> simp at hs ⊢)
          generalize hq : ρ' x = q at hx hrun
          generalize hL : l.getD 0 = L at *
          generalize hHH : hh.getD n = HH at *
          cases m with
          | some m =>
            simp only [Option.getD_some] at c2 c3
            cases hcz : (Nat.beq c 0 && Nat.beq n 0) with
            | true => simp only [hcz] at h; cases h
            | false =>
            simp only [hcz, Option.some.injEq] at h
            subst h
            cases hx with
            | @slice _ _ _ _ c' s hs hn hmm hcc =>
              have hb := run_sliceBounds' (P := P) w (n := n) (c := c') el1 eh1 em1 (by omega) (by simp only [Option.getD_some]; omega) (by simp only [Option.getD_some]; omega) c4'
              refine ⟨_, hrun _ (run_sliceAt' w ht hinf hb), ?_⟩
              simp only [hL, hHH, Option.getD_some, Option.map_some, add_none]
              cases hbq : Nat.beq m L with
              | true =>
                have := Nat.eq_of_beq_eq_true hbq; subst this
                simp only [if_true]
                exact .slice hs (by omega) (by omega) (.inl (by omega))
              | false =>
                have := Nat.ne_of_beq_eq_false hbq
                simp only [if_neg this, Nat.add_assoc]
                exact .slice hs (by omega) (by omega) (.inl (by omega))
            | @sliceE _ _ pp c' s hs hmm hcc =>
              simp at hcz
          | none =>
            simp only [Option.getD_none] at c2 c3
            cases hx with
            | @slice _ _ _ _ c' s hs hn hmm hcc =>
              have hb := run_sliceBounds' (P := P) w (n := n) (c := c') el1 eh1 em1 (by omega) (by simp only [Option.getD_none]; omega) (by simp) c4'
              cases c with
              | zero =>
                simp only at h
                cases hck : capKnown inf.size i H with
                | false => rw [hck] at h; cases h
                | true =>
                rw [hck] at h
                simp only [Option.some.injEq] at h
                have hcb : s.own = true → s.shift + p + c' * s.esz ≤ s.tot := by
                  rcases hcc with hcc | hcc
                  · omega
                  · exact hcc.2
                have hez : s.own = true → s.esz = inf.size := fun hso => by
                  unfold capKnown at hck
                  split at hck
                  · rename_i cells elem esz own hi
                    obtain ⟨q1, _, q3⟩ := hr.obj _ _ _ hi hs
                    rw [hso] at q1; subst q1
                    have := Nat.eq_of_beq_eq_true (by simpa using hck)
                    rw [← this]; exact (q3 rfl).1
                  · cases hck
                refine ⟨_, hrun _ (run_sliceAt' w ht hinf hb), ?_⟩
                simp only [hL, hHH, Option.getD_none, Option.map_some, add_none]
                have hmul : L * inf.size + (c' - L) * inf.size = c' * inf.size := by rw [← Nat.add_mul]; congr 1; omega
                cases hbq : Nat.beq L HH with
                | true =>
                  have := Nat.eq_of_beq_eq_true hbq; subst this
                  rw [hbq] at h
                  simp only at h
                  subst h
                  rw [Nat.sub_self]
                  by_cases hcl : c' = L
                  · rw [if_pos hcl]
                    refine .sliceE hs (by omega) fun hso => ?_
                    have := hcb hso
                    rw [show c' - L = 0 from by omega]; omega
                  · rw [if_neg hcl]
                    refine .sliceE hs (by omega) fun hso => ?_
                    have h1 := hcb hso
                    rw [hez hso] at h1 ⊢
                    omega
                | false =>
                  have hne := Nat.ne_of_beq_eq_false hbq
                  rw [hbq] at h
                  simp only at h
                  subst h
                  rw [if_neg (by omega), Nat.add_assoc]
                  refine .slice hs (by omega) (by omega) (.inr ⟨rfl, fun hso => ?_⟩)
                  have h1 := hcb hso
                  rw [hez hso] at h1 ⊢
                  omega
              | succ c =>
                simp only [Option.some.injEq] at h
                subst h
                have : c' = c := by rcases hcc with hcc | hcc <;> omega
                subst this
                refine ⟨_, hrun _ (run_sliceAt' w ht hinf hb), ?_⟩
                simp only [hL, hHH, Option.getD_none, Option.map_some, add_none]
                cases hbq : Nat.beq c' L with
                | true =>
                  have := Nat.eq_of_beq_eq_true hbq; subst this
                  simp only [if_true]
                  exact .slice hs (by omega) (by omega) (.inl (by omega))
                | false =>
                  have := Nat.ne_of_beq_eq_false hbq
                  simp only [if_neg this, Nat.add_assoc]
                  exact .slice hs (by omega) (by omega) (.inl (by omega))
            | @sliceE _ _ pp c' s hs hmm hcc =>
              have hL0 : L = 0 := by omega
              have hH0 : HH = 0 := by omega
              subst hL0 hH0
              simp only at h
              cases hck : capKnown inf.size i H with
              | false => rw [hck] at h; cases h
              | true =>
              rw [hck] at h
              simp only [Option.some.injEq] at h
              have hb := run_sliceBounds' (P := P) w (n := 0) (c := c') el1 eh1 em1 (by omega) (by simp only [Option.getD_none]; omega) (by simp) c4'
              refine ⟨_, hrun _ (run_sliceAt' w ht hinf hb), ?_⟩
              simp only [hL, hHH, Option.getD_none, Option.map_some, add_none, Nat.zero_mul, Nat.add_zero, ite_self, Nat.sub_zero]
              subst h
              exact .sliceE hs hmm hcc
      · cases h
    · cases h
  · cases h
end Go.Proofs.Ytmflapajjghpmaa
