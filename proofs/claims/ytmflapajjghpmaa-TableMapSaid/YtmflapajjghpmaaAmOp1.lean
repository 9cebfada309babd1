/- The abstract machine's simple operations, and that each does what the model's does: values, variables, fields. -/
import Derived.Test.YtmflapajjghpmaaAmRel
namespace Go.Proofs.Ytmflapajjghpmaa
open Go.RowKit

/-- what an operation answers that asks nothing of the world -/
def qval (P : Program) {α : Type} : Sem α → Option α
  | .pure a => some a
  | .program k => qval P (k P)
  | .mark _ k => qval P k
  | _ => none
theorem qval_run (P : Program) {α : Type} {s : Sem α} {a : α} (h : qval P s = some a) (w : World) : s.run P w = .ok a w := by
  induction s with
  | pure b => simp only [qval] at h; cases h; rfl
  | program k ih => exact ih P h
  | mark m k ih => exact ih h
  | _ => simp [qval] at h

def Fits (P : Program) (o : Oper) (ρ : Operand → Value) (fid : Nat) (H : AHeap) (v : Value) (H' : AHeap) : Prop :=
  ∀ (β : Ren) (w : World) (ρ' : Operand → Value), Rel β H w → β fid = none → fid < H.next → (∀ x ∈ o.op.operands, VR β (ρ x) (ρ' x)) →
    ∃ β' v' w', (∃ n, (execOp ρ' o).run P w = .ok n w' ∧ (n = .value v' ∨ n = .skip ∧ v' = undef)) ∧ VR β' v v' ∧ Goes β H w β' H' w' ∧ (∀ i, i ≠ fid → β' i = β i) ∧ H'.next = H.next

theorem vr_undef (β : Ren) : VR β undef undef := .tuple rfl (fun j x y hx _ => by simp at hx)

/-! ### operations on values without blocks -/
def notSelect : Op → Bool
  | .select .. => false
  | _ => true
def aPure (P : Program) (ρ : Operand → Value) (o : Oper) : Option Value :=
  cond (notSelect o.op && o.op.operands.toList.all fun x => flat (ρ x)) (match qval P (execOp ρ o) with
    | some (.value v) => cond (flat v) (some v) none
    | _ => none) none
theorem fits_pure {P : Program} {o : Oper} {ρ : Operand → Value} {v : Value} (h : aPure P ρ o = some v) (fid : Nat) (H : AHeap) : Fits P o ρ fid H v H := by
  intro β w ρ' hr _ _ hρ
  unfold aPure at h
  cases hc : (notSelect o.op && o.op.operands.toList.all fun x => flat (ρ x)) with
  | false => rw [hc] at h; cases h
  | true =>
    rw [hc] at h
    simp only [cond] at h
    rw [Bool.and_eq_true] at hc
    have hsel : ∀ cs b, o.op ≠ .select cs b := fun cs b e => by rw [e] at hc; cases hc.1
    have heq : execOp ρ' o = execOp ρ o := execOp_congr o hsel fun x hx => (flat_vr (List.all_eq_true.1 hc.2 x (Array.mem_toList_iff.2 hx)) β).2 _ (hρ x hx)
    cases hq : qval P (execOp ρ o) with
    | none => rw [hq] at h; cases h
    | some n =>
      rw [hq] at h
      cases n with
      | value u =>
        cases hf : flat u with
        | false => simp [hf] at h
        | true =>
          simp [hf] at h; subst h
          exact ⟨β, u, w, ⟨_, by rw [heq]; exact qval_run P hq w, .inl rfl⟩, (flat_vr hf β).1, .refl hr, fun _ _ => rfl, rfl⟩
      | _ => simp at h

/-- an operation that only hands a value on -/
theorem fits_value {P : Program} {o : Oper} {ρ : Operand → Value} {v : Value} (fid : Nat) (H : AHeap)
    (h : ∀ (β : Ren) (w : World) (ρ' : Operand → Value), Rel β H w → (∀ x ∈ o.op.operands, VR β (ρ x) (ρ' x)) → ∃ v', (execOp ρ' o).run P w = .ok (.value v') w ∧ VR β v v') : Fits P o ρ fid H v H := by
  intro β w ρ' hr _ _ hρ
  obtain ⟨v', h1, h2⟩ := h β w ρ' hr hρ
  exact ⟨β, v', w, ⟨_, h1, .inl rfl⟩, h2, .refl hr, fun _ _ => rfl, rfl⟩

theorem fits_move {P : Program} {o : Oper} {ρ : Operand → Value} {x : Operand} (ho : o.op = .move x ∨ o.op = .assign x) (fid : Nat) (H : AHeap) : Fits P o ρ fid H (ρ x) H := by
  refine fits_value fid H fun β w ρ' _ hρ => ⟨ρ' x, ?_, hρ x ?_⟩
  · rcases ho with h | h <;> (simp only [execOp, h]; rfl)
  · rcases ho with h | h <;> simp [h, Op.operands]

theorem fits_pick {P : Program} {o : Oper} {ρ : Operand → Value} {c x y : Operand} {t : Bool} (ho : o.op = .pick c x y) (hc : ρ c = .bool t) (fid : Nat) (H : AHeap) : Fits P o ρ fid H (if t then ρ x else ρ y) H := by
  refine fits_value fid H fun β w ρ' _ hρ => ?_
  have h1 := hρ c (by simp [ho, Op.operands])
  have h2 := hρ x (by simp [ho, Op.operands])
  have h3 := hρ y (by simp [ho, Op.operands])
  rw [hc] at h1
  have e : ρ' c = .bool t := by generalize ρ' c = u at h1; cases h1; rfl
  refine ⟨if t then ρ' x else ρ' y, by simp only [execOp, ho, e]; rfl, by cases t <;> assumption⟩

theorem fits_nilCheck {P : Program} {o : Oper} {ρ : Operand → Value} {x : Operand} {a : Addr} (ho : o.op = .nilCheck x) (hx : ρ x = .pointer (some a)) (fid : Nat) (H : AHeap) : Fits P o ρ fid H (ρ x) H := by
  refine fits_value fid H fun β w ρ' _ hρ => ?_
  have h1 := hρ x (by simp [ho, Op.operands])
  refine ⟨ρ' x, ?_, h1⟩
  rw [hx] at h1
  generalize hu : ρ' x = u at h1
  cases h1
  simp only [execOp, ho, hu]; rfl
theorem fits_nilCheckF {P : Program} {o : Oper} {ρ : Operand → Value} {x : Operand} {f : FuncId} {a c : Array Value} (ho : o.op = .nilCheck x) (hx : ρ x = .func (.func f) a c) (fid : Nat) (H : AHeap) : Fits P o ρ fid H (ρ x) H := by
  refine fits_value fid H fun β w ρ' _ hρ => ?_
  have h1 := hρ x (by simp [ho, Op.operands])
  refine ⟨ρ' x, ?_, h1⟩
  rw [hx] at h1
  generalize hu : ρ' x = u at h1
  cases h1
  simp only [execOp, ho, hu]; rfl

/-! ### pieces -/
theorem add_none (b s n : Nat) : (⟨b, s, none⟩ : Addr).add n = ⟨b, s + n, none⟩ := by unfold Addr.add; split <;> simp_all
theorem cells_vr {β : Ren} {v v' : Value} (h : VR β v v') : v.cells.size = v'.cells.size ∧ ∀ (j : Nat) (x y : Value), v.cells[j]? = some x → v'.cells[j]? = some y → VR β x y := by
  cases h with
  | agg hs h1 => exact ⟨hs, h1⟩
  | _ =>
    refine ⟨rfl, fun j x y hx hy => ?_⟩
    cases j with
    | zero =>
      simp only [Value.cells, List.getElem?_toArray, List.getElem?_cons_zero, Option.some.injEq] at hx hy
      subst hx hy; constructor <;> assumption
    | succ j => simp [Value.cells] at hx
theorem run_underlying' {P : Program} {t : TypeId} {d : TypeDesc} (h : P.underlying t = some d) (w : World) : (underlying t).run P w = .ok d w := by simp [underlying, h]
theorem run_typeInfo' {P : Program} {t : TypeId} {i : TypeInfo} (h : P.info? t = some i) (w : World) : (typeInfo t).run P w = .ok i w := by simp [typeInfo, h]
theorem run_sizeOf' {P : Program} {t : TypeId} {i : TypeInfo} (h : P.info? t = some i) (w : World) : (sizeOf t).run P w = .ok i.size w := by simp [sizeOf, run_typeInfo' h]
theorem run_zeroValue' {P : Program} {t : TypeId} {i : TypeInfo} {z : Value} (h : P.info? t = some i) (hz : i.zero = some z) (w : World) : (zeroValue t).run P w = .ok z w := by simp [zeroValue, run_typeInfo' h, hz]
def aggT : TypeDesc → Bool
  | .struct _ | .array _ _ => true
  | _ => false
theorem run_isAgg' {P : Program} {t : TypeId} {d : TypeDesc} (h : P.underlying t = some d) (w : World) : (isAgg t).run P w = .ok (aggT d) w := by
  cases d <;> simp [isAgg, run_underlying' h, aggT]

/-- part of a value -/
def aPart (P : Program) (t : TypeId) (cs : Array Value) (off : Nat) : Option Value :=
  match P.underlying t, P.info? t with
  | some d, some i => cond (aggT d) (some (.agg (cs.extract off (off + i.size)))) (cs[off]?)
  | _, _ => none
theorem part_vr {P : Program} {β : Ren} {t : TypeId} {cs cs' : Array Value} {off : Nat} {v : Value} (h : aPart P t cs off = some v) (hs : cs.size = cs'.size)
    (hc : ∀ (j : Nat) (x y : Value), cs[j]? = some x → cs'[j]? = some y → VR β x y) (w : World) : ∃ v', (part t cs' off).run P w = .ok v' w ∧ VR β v v' := by
  unfold aPart at h
  cases hd : P.underlying t with
  | none => simp [hd] at h
  | some d =>
    cases hi : P.info? t with
    | none => simp [hd, hi] at h
    | some i =>
      simp only [hd, hi] at h
      cases ha : aggT d with
      | true =>
        simp only [ha, cond, Option.some.injEq] at h
        subst h
        refine ⟨.agg (cs'.extract off (off + i.size)), by simp [part, run_isAgg' hd, ha, run_sizeOf' hi], .agg (by simp [hs]) fun j x y hx hy => ?_⟩
        rw [Array.getElem?_extract] at hx hy
        split at hx
        · split at hy
          · exact hc _ x y hx hy
          · cases hy
        · cases hx
      | false =>
        simp only [ha, cond] at h
        have hl := (Array.getElem?_eq_some_iff.1 h).1
        refine ⟨cs'[off]'(by omega), ?_, hc off v _ h (by simp)⟩
        have e : cs'[off]? = some (cs'[off]'(by omega)) := by simp
        simp [part, run_isAgg' hd, ha, e]

theorem fits_field {P : Program} {o : Oper} {ρ : Operand → Value} {t : TypeId} {x : Operand} {f : Nat} {cs : Array Value} {fs : Array Field} {fd : Field} {v : Value} (ho : o.op = .field t x f) (hx : ρ x = .agg cs) (ht : P.underlying t = some (.struct fs)) (hf : fs[f]? = some fd) (hp : aPart P fd.type cs fd.offset = some v) (fid : Nat) (H : AHeap) : Fits P o ρ fid H v H := by
  refine fits_value fid H fun β w ρ' _ hρ => ?_
  have h1 := hρ x (by simp [ho, Op.operands])
  rw [hx] at h1
  generalize hu : ρ' x = u at h1
  cases h1 with
  | @agg _ cs' hs hc =>
    obtain ⟨v', h2, h3⟩ := part_vr hp hs hc w
    refine ⟨v', ?_, h3⟩
    simp [execOp, ho, hu, Instr.field, run_underlying' ht, hf, asAgg, h2]

theorem fits_extract {P : Program} {o : Oper} {ρ : Operand → Value} {x : Operand} {k : Nat} {vs : Array Value} {v : Value} (ho : o.op = .extract x k) (hx : ρ x = .tuple vs) (hv : vs[k]? = some v) (fid : Nat) (H : AHeap) : Fits P o ρ fid H v H := by
  refine fits_value fid H fun β w ρ' _ hρ => ?_
  have h1 := hρ x (by simp [ho, Op.operands])
  rw [hx] at h1
  generalize hu : ρ' x = u at h1
  cases h1 with
  | @tuple _ vs' hs hc =>
    have hl := (Array.getElem?_eq_some_iff.1 hv).1
    have e : vs'[k]? = some (vs'[k]'(by omega)) := by simp
    exact ⟨vs'[k]'(by omega), by simp [execOp, ho, hu, Instr.extract, e], hc k v _ hv e⟩

theorem fits_indexArr {P : Program} {o : Oper} {ρ : Operand → Value} {t el : TypeId} {x ix : Operand} {n i : Nat} {k : IntKind} {cs : Array Value} {inf : TypeInfo} {v : Value} (ho : o.op = .index t x ix) (hx : ρ x = .agg cs) (hix : ρ ix = .int k (Int.ofNat i)) (ht : P.underlying t = some (.array n el)) (hin : Nat.blt i n = true) (hi : P.info? el = some inf) (hp : aPart P el cs (i * inf.size) = some v) (fid : Nat) (H : AHeap) : Fits P o ρ fid H v H := by
  refine fits_value fid H fun β w ρ' _ hρ => ?_
  have h1 := hρ x (by simp [ho, Op.operands])
  have h2 := hρ ix (by simp [ho, Op.operands])
  rw [hx] at h1; rw [hix] at h2
  have e2 : ρ' ix = .int k (Int.ofNat i) := by generalize ρ' ix = u at h2; cases h2; rfl
  generalize hu : ρ' x = u at h1
  cases h1 with
  | @agg _ cs' hs hc =>
    obtain ⟨v', h3, h4⟩ := part_vr hp hs hc w
    have hin' : i < n := by simpa [Nat.blt_eq] using hin
    refine ⟨v', ?_, h4⟩
    simp [execOp, ho, hu, e2, Instr.index, asIntOf, run_underlying' ht, hin', run_sizeOf' hi, h3]

theorem fits_makeFunc {P : Program} {o : Oper} {ρ : Operand → Value} {fn : Fn} {a c : Array Operand} (ho : o.op = .makeFunc fn a c) (fid : Nat) (H : AHeap) : Fits P o ρ fid H (.func fn (a.map ρ) (c.map ρ)) H := by
  refine fits_value fid H fun β w ρ' _ hρ => ⟨.func fn (a.map ρ') (c.map ρ'), by simp [execOp, ho, Instr.makeFunc], .func (by simp) (by simp) (fun j x y hx hy => ?_) (fun j x y hx hy => ?_)⟩
  all_goals
    rw [Array.getElem?_map] at hx hy
    obtain ⟨u, hu, rfl⟩ := Option.map_eq_some_iff.1 hx
    rw [hu] at hy; cases hy
    exact hρ u (by simp only [ho, Op.operands]; have := Array.mem_of_getElem? hu; simp [this])

theorem fits_makeIface {P : Program} {o : Oper} {ρ : Operand → Value} {t : TypeId} {x : Operand} {d : TypeDesc} (ho : o.op = .makeInterface t x) (hd : P.underlying t = some d) (hn : (match d with | .interface _ => false | _ => true) = true) (fid : Nat) (H : AHeap) : Fits P o ρ fid H (.iface t (ρ x)) H := by
  refine fits_value fid H fun β w ρ' _ hρ => ⟨.iface t (ρ' x), ?_, .iface (hρ x (by simp [ho, Op.operands]))⟩
  cases d <;> simp [execOp, ho, Instr.makeInterface, run_underlying' hd] at hn ⊢

theorem fits_fieldAddr {P : Program} {o : Oper} {ρ : Operand → Value} {t : TypeId} {x : Operand} {f : Nat} {i p : Nat} {fs : Array Field} {fd : Field} {inf : TypeInfo} (ho : o.op = .fieldAddr t x f) (hx : ρ x = .pointer (some ⟨i, p, none⟩)) (ht : P.underlying t = some (.struct fs)) (hf : fs[f]? = some fd) (hi : P.info? fd.type = some inf) (hz : Nat.beq inf.size 0 = false) (fid : Nat) (H : AHeap) : Fits P o ρ fid H (.pointer (some ⟨i, p + fd.offset, none⟩)) H := by
  refine fits_value fid H fun β w ρ' _ hρ => ?_
  have h1 := hρ x (by simp [ho, Op.operands])
  rw [hx] at h1
  generalize hu : ρ' x = u at h1
  cases h1 with
  | @ptr _ _ s hs =>
    have hz' : inf.size ≠ 0 := fun e => by rw [e] at hz; cases hz
    refine ⟨.pointer (some ⟨s.blk, s.shift + (p + fd.offset), none⟩), ?_, .ptr hs⟩
    simp [execOp, ho, hu, Instr.fieldAt, run_underlying' ht, hf, Instr.sureAddr, fieldPlace, run_sizeOf' hi, hz', add_none, Nat.add_assoc]

theorem fits_indexAddr {P : Program} {o : Oper} {ρ : Operand → Value} {t el : TypeId} {x ix : Operand} {i p n c j : Nat} {k : IntKind} {inf : TypeInfo} (ho : o.op = .indexAddr t x ix) (hx : ρ x = .slice (some ⟨i, p, none⟩) n c) (hix : ρ ix = .int k (Int.ofNat j)) (ht : P.underlying t = some (.slice el)) (hi : P.info? el = some inf) (hj : Nat.blt j n = true) (fid : Nat) (H : AHeap) : Fits P o ρ fid H (.pointer (some ⟨i, p + j * inf.size, none⟩)) H := by
  refine fits_value fid H fun β w ρ' _ hρ => ?_
  have h1 := hρ x (by simp [ho, Op.operands])
  have h2 := hρ ix (by simp [ho, Op.operands])
  rw [hx] at h1; rw [hix] at h2
  have e2 : ρ' ix = .int k (Int.ofNat j) := by generalize ρ' ix = u at h2; cases h2; rfl
  have hj' : j < n := by simpa [Nat.blt_eq] using hj
  generalize hu : ρ' x = u at h1
  cases h1 with
  | @slice _ _ _ _ c' s hs hn hm hc =>
    refine ⟨.pointer (some ⟨s.blk, s.shift + (p + j * inf.size), none⟩), ?_, .ptr hs⟩
    simp [execOp, ho, hu, e2, Instr.indexAt, asIntOf, run_underlying' ht, hj', run_sizeOf' hi, add_none, Nat.add_assoc]
  | sliceE => omega
theorem fits_indexAddrArr {P : Program} {o : Oper} {ρ : Operand → Value} {t el : TypeId} {x ix : Operand} {i p n j : Nat} {k : IntKind} {inf : TypeInfo} (ho : o.op = .indexAddr t x ix) (hx : ρ x = .pointer (some ⟨i, p, none⟩)) (hix : ρ ix = .int k (Int.ofNat j)) (ht : P.underlying t = some (.array n el)) (hi : P.info? el = some inf) (hj : Nat.blt j n = true) (fid : Nat) (H : AHeap) : Fits P o ρ fid H (.pointer (some ⟨i, p + j * inf.size, none⟩)) H := by
  refine fits_value fid H fun β w ρ' _ hρ => ?_
  have h1 := hρ x (by simp [ho, Op.operands])
  have h2 := hρ ix (by simp [ho, Op.operands])
  rw [hx] at h1; rw [hix] at h2
  have e2 : ρ' ix = .int k (Int.ofNat j) := by generalize ρ' ix = u at h2; cases h2; rfl
  have hj' : j < n := by simpa [Nat.blt_eq] using hj
  generalize hu : ρ' x = u at h1
  cases h1 with
  | @ptr _ _ s hs =>
    refine ⟨.pointer (some ⟨s.blk, s.shift + (p + j * inf.size), none⟩), ?_, .ptr hs⟩
    simp [execOp, ho, hu, e2, Instr.indexAt, Instr.sureAddr, asIntOf, run_underlying' ht, hj', run_sizeOf' hi, add_none, Nat.add_assoc]
end Go.Proofs.Ytmflapajjghpmaa
