/- The abstract machine's operations on slices. -/
import Derived.Test.YtmflapajjghpmaaAmOp2
import Derived.Laws.Append
import Derived.Laws.MakeOwn
namespace Go.Proofs.Ytmflapajjghpmaa
open Go.RowKit

/-! ### a row that may lie where another lay -/
theorem Goes.move {β : Ren} {H : AHeap} {w : World} (h : Rel β H w) {i : Nat} {o o' : AObj} {s s' : Spot} (hi : H.get i = some o) (hs : β i = some s) (hown : s.own = true) {fid : Nat} (hf : β fid = none) (hn : fid < H.next) (w' : World)
    (hos : w'.os = w.os) (htp : w'.tape = w.tape) (hout : w'.output = w.output) (hsz : w'.heap.size = w.heap.size) (hk : ∀ b, b ≠ s.blk → w'.heap[b]? = w.heap[b]?) (hb : s'.blk = s.blk) (hso : s'.own = true) (ho : ObjOk (β.put fid s') w' s' o') :
    Goes β H w (β.put fid s') ((H.upd i none).add fid o') w' := by
  have hle : β.le (β.put fid s') := β.le_put fid s' hf
  have hif : i ≠ fid := fun e => by rw [e, hf] at hs; cases hs
  have hget : ∀ j, ((H.upd i none).add fid o').get j = if j = fid then some o' else if j = i then none else H.get j := fun j => by rw [AHeap.get_add, AHeap.get_upd]
  have hold : ∀ {j : Nat} {sj : Spot}, β.put fid s' j = some sj → (j = fid ∧ sj = s') ∨ (j ≠ fid ∧ β j = some sj) := by
    intro j sj hj
    by_cases e : j = fid
    · subst e; rw [Ren.put_same] at hj; cases hj; exact .inl ⟨rfl, rfl⟩
    · rw [Ren.put_other β s' e] at hj; exact .inr ⟨e, hj⟩
  have hne : ∀ j oj sj, H.get j = some oj → β j = some sj → j ≠ i → sj.blk ≠ s.blk := fun j oj sj a b e => (h.apart i j o oj s sj hi a hs b (Ne.symm e) hown).symm
  refine ⟨hle, ⟨?_, ?_, ?_, ?_⟩, hos, htp, hout, by omega, fun b hb hn => hk b fun e => hn ⟨i, o, s, hi, hs, hown, e.symm⟩, ?_, ?_⟩
  · intro j oj sj a b
    rw [hget] at a
    rcases hold b with ⟨rfl, rfl⟩ | ⟨e, b⟩
    · rw [if_pos rfl] at a; cases a; exact ho
    · rw [if_neg e] at a
      by_cases e2 : j = i
      · rw [if_pos e2] at a; cases a
      · rw [if_neg e2] at a; exact (h.obj j oj sj a b).mono hle (hk _ (hne j oj sj a b e2))
  · intro j sj b
    rcases hold b with ⟨rfl, rfl⟩ | ⟨e, b⟩
    · have := h.blk i s hs; omega
    · have := h.blk j sj b; omega
  · intro j k oj ok sj sk a b c d hjk hso2
    rw [hget] at a b
    rcases hold c with ⟨rfl, rfl⟩ | ⟨e, c⟩ <;> rcases hold d with ⟨rfl, rfl⟩ | ⟨e2, d⟩
    · exact absurd rfl hjk
    · rw [if_neg e2] at b
      by_cases e3 : k = i
      · rw [if_pos e3] at b; cases b
      · rw [if_neg e3] at b; rw [hb]; exact (hne k ok sk b ‹β k = some sk› e3).symm
    · rw [if_neg e] at a
      by_cases e3 : j = i
      · rw [if_pos e3] at a; cases a
      · rw [if_neg e3] at a; rw [hb]; exact hne j oj sj a ‹β j = some sj› e3
    · rw [if_neg e] at a; rw [if_neg e2] at b
      by_cases e3 : j = i
      · rw [if_pos e3] at a; cases a
      · by_cases e4 : k = i
        · rw [if_pos e4] at b; cases b
        · rw [if_neg e3] at a; rw [if_neg e4] at b
          exact h.apart j k oj ok sj sk a b c d hjk hso2
  · intro j hj
    have hj : H.next ≤ j := hj
    rw [Ren.put_other β s' (by omega)]
    exact h.fresh j hj
  · rintro b hb2 ⟨j, oj, sj, a, c, d, e⟩
    rw [hget] at a
    rcases hold c with ⟨rfl, rfl⟩ | ⟨e2, c⟩
    · exact ⟨i, o, s, hi, hs, hown, by omega⟩
    · rw [if_neg e2] at a
      by_cases e3 : j = i
      · rw [if_pos e3] at a; cases a
      · rw [if_neg e3] at a; exact ⟨j, oj, sj, a, c, d, e⟩
  · rintro b hb2 ⟨j, oj, sj, a, c, e⟩
    rw [hget] at a
    rcases hold c with ⟨rfl, rfl⟩ | ⟨e2, c⟩
    · exact ⟨i, o, s, hi, hs, by omega⟩
    · rw [if_neg e2] at a
      by_cases e3 : j = i
      · rw [if_pos e3] at a; cases a
      · rw [if_neg e3] at a; exact ⟨j, oj, sj, a, c, e⟩

/-- cells written one behind the other into a block -/
theorem run_storeCells_row {P : Program} {b : Nat} {elem : TypeId} {fz : Nat × Nat} : ∀ (vs : List Value) (w : World) (c : Array Value) (q k : Nat), w.heap[b]? = some (.cells c elem fz) → q + k + vs.length ≤ c.size → (∀ j, j < c.size → (decide (fz.1 ≤ j) && decide (j < fz.2)) = false) → (∀ v ∈ vs, v.oneCell' = true) →
    ∃ w' c2, (storeCells ⟨b, q, none⟩ vs k).run P w = .ok () w' ∧ w'.heap[b]? = some (.cells c2 elem fz) ∧ c2.size = c.size ∧ (∀ j, j < q + k → c2[j]? = c[j]?) ∧ (∀ j v, vs[j]? = some v → c2[q + k + j]? = some v) ∧
      w'.os = w.os ∧ w'.tape = w.tape ∧ w'.output = w.output ∧ w'.heap.size = w.heap.size ∧ ∀ d, d ≠ b → w'.heap[d]? = w.heap[d]?
  | [], w, c, q, k, h, _, _, _ => ⟨w, c, by simp [storeCells], h, rfl, fun _ _ => rfl, fun j v hj => by simp at hj, rfl, rfl, rfl, rfl, fun _ _ => rfl⟩
  | v :: vs, w, c, q, k, h, hl, hf, ho => by
    simp only [List.length_cons] at hl
    have hlt : q + k < c.size := by omega
    have hcell : w.cell? ⟨b, q + k, none⟩ = some c[q + k] := by rw [World.cell?, h]; simp [hlt]
    have hfz : w.frozen? ⟨b, q + k, none⟩ = false := by simp only [World.frozen?, h]; exact hf _ hlt
    have hw1 : (w.setCell ⟨b, q + k, none⟩ v).heap[b]? = some (.cells (c.setIfInBounds (q + k) v) elem fz) := by
      simp only [World.setCell, Array.getElem?_modify, if_true, h, Option.map_some]; rfl
    obtain ⟨w', c2, h1, h2, h3, h4, h5, h6, h7, h8, h9, h10⟩ := run_storeCells_row (P := P) vs (w.setCell ⟨b, q + k, none⟩ v) (c.setIfInBounds (q + k) v) q (k + 1) hw1 (by simp; omega) (fun j hj => hf j (by simpa using hj)) (fun u hu => ho u (by simp [hu]))
    refine ⟨w', c2, ?_, h2, by simpa using h3, fun j hj => ?_, fun j u hu => ?_, h6, h7, h8, by simpa using h9, fun d hd => (h10 d hd).trans (Below.heap_setCell _ _ _ _ hd)⟩
    · simp only [storeCells, Sem.run_bind, run_store _ _ _ _ _ (ho v (by simp)), add_none, hcell, hfz, Result.andThen]
      exact h1
    · rw [h4 j (by omega), Array.getElem?_setIfInBounds_ne (by omega)]
    · cases j with
      | zero =>
        simp at hu; subst hu
        rw [Nat.add_zero, h4 (q + k) (by omega)]
        simp [hlt]
      | succ j => have := h5 j u hu; rwa [show q + (k + 1) + j = q + k + (j + 1) from by omega] at this

/-! ### append -/
/-- the cells that are added -/
def addCells (size : Nat) (x : Value) (H : AHeap) : Option (Nat × List Value) :=
  match x with
  | .slice none 0 0 => some (0, [])
  | .slice (some ⟨i, o, none⟩) n _ => match H.get i with
    | some (.row cells _ _ _) => (cut cells o (n * size)).map fun l => (n, l)
    | _ => none
  | .string s => cond (Nat.beq size 1) (some (s.size, (s.data.map fun b => Value.int .u8 b.toNat).toList)) none
  | _ => none
theorem cut_zero {cells : List Value} {o : Nat} {l : List Value} (h : cut cells o 0 = some l) : l = [] := List.eq_nil_of_length_eq_zero (cut_some h).1
theorem addCells_vr {P : Program} {β : Ren} {H : AHeap} {w : World} (hr : Rel β H w) {size : Nat} {x x' : Value} (hx : VR β x x') {n : Nat} {news : List Value} (h : addCells size x H = some (n, news)) :
    ∃ news' : List Value, news.length = news'.length ∧ news.length = n * size ∧ (∀ (j : Nat) (u v : Value), news[j]? = some u → news'[j]? = some v → VR β u v) ∧ (Builtin.lenOf x').run P w = .ok n w ∧
      (∀ W : World, W.heap = w.heap → (Builtin.lenOf x').run P W = .ok n W ∧ (Builtin.firstCells size n x').run P W = .ok news'.toArray W) := by
  unfold addCells at h
  split at h
  · cases h; cases hx
    exact ⟨[], rfl, by simp, fun j u v hu => by simp at hu, by simp [Builtin.lenOf], fun W _ => ⟨by simp [Builtin.lenOf], by simp [Builtin.firstCells]⟩⟩
  · rename_i i o m c
    split at h
    · rename_i cells elem esz own hi
      obtain ⟨l, hl, he⟩ := Option.map_eq_some_iff.1 h
      cases he
      cases hx with
      | slice hs hn hm hc =>
        obtain ⟨l', h1, h2, h3, h4⟩ := rel_piece hr hi hs hl
        refine ⟨l', by omega, h2, h4, by simp [Builtin.lenOf], fun W hW => ⟨by simp [Builtin.lenOf], ?_⟩⟩
        refine run_firstCells_some W size _ _ _ _ l' h1 fun j v hj => ?_
        have := h3 j v hj
        unfold World.cell? at this ⊢
        rw [hW]; exact this
      | sliceE hs hm hc =>
        have hl' := hl
        rw [Nat.zero_mul] at hl'
        have := cut_zero hl'; subst this
        exact ⟨[], rfl, by simp, fun j u v hu => by simp at hu, by simp [Builtin.lenOf], fun W hW => ⟨by simp [Builtin.lenOf], by simp [Builtin.firstCells, loadCells, loadCellsFrom]⟩⟩
    · cases h
  · rename_i s
    cases hb : Nat.beq size 1 with
    | false => rw [hb] at h; cases h
    | true =>
      rw [hb] at h
      simp only [cond, Option.some.injEq, Prod.mk.injEq] at h
      have := Nat.eq_of_beq_eq_true hb; subst this
      obtain ⟨rfl, rfl⟩ := h
      cases hx
      have hsz : (s.data.map fun b => Value.int .u8 (b.toNat : Int)).toList.length = s.size := by simp
      refine ⟨(s.data.map fun b => Value.int .u8 (b.toNat : Int)).toList, rfl, hsz.trans (Nat.mul_one _).symm, fun j u v hu hv => ?_, by simp [Builtin.lenOf], fun W hW => ⟨by simp [Builtin.lenOf], ?_⟩⟩
      · rw [hu] at hv; cases hv
        rw [Array.getElem?_toList, Array.getElem?_map] at hu
        obtain ⟨b, _, rfl⟩ := Option.map_eq_some_iff.1 hu
        exact .int _ _
      · have e : s.extract 0 s.size = s := by simp
        simp only [Builtin.firstCells, e, Sem.run_pure]
  · cases h

/-- what may be added from: a slice, a string -/
def srcT : TypeDesc → Bool
  | .slice _ | .string => true
  | _ => false
/-- what append comes to where there is no room -/
theorem run_append_more {P : Program} (w : World) {t u el : TypeId} {inf : TypeInfo} {z : Value} {d : TypeDesc} (ht : P.underlying t = some (.slice el)) (hu : P.underlying u = some d) (hnd : srcT d = true) (hi : P.info? el = some inf) (hz : inf.zero = some z)
    {base : Option Addr} {n c m : Nat} {x : Value} {olds news : List Value} (hlen : ∀ W : World, W.heap = w.heap → (Builtin.lenOf x).run P W = .ok m W ∧ (Builtin.firstCells inf.size m x).run P W = .ok news.toArray W)
    (hold : ∀ W : World, W.heap = w.heap → (Builtin.firstCells inf.size n (.slice base n c)).run P W = .ok olds.toArray W) (hg : c < n + m) (hb : (n + m) * inf.bytes ≤ 140737488355328) (h63 : n + m ≤ 9223372036854775807) (ty : TypeId) :
    (Builtin.append_ #[t, u] ty #[.slice base n c, x]).run P w = .ok (.slice (some ⟨w.heap.size, 0, none⟩) (n + m) (grownCap w (n + m) c el)) (w.drew.alloc (.cells ((olds ++ news) ++ (Builtin.zeroCells z.cells (grownCap w (n + m) c el - (n + m))).toList).toArray el)) := by
  have hfit := growslice_fits hg hb
  have hn : ¬ (n + m ≤ c) := by omega
  have h63' : ¬ (9223372036854775807 < ((n : Int) + (m : Int))) := by omega
  have h48' : ¬ (281474976710656 < Builtin.nextslicecap (n + m) c * inf.bytes) := by omega
  obtain ⟨hl1, _⟩ := hlen w rfl
  obtain ⟨_, hl2⟩ := hlen w.drew rfl
  have ho2 := hold w.drew rfl
  cases d <;> cases hnd <;> simp [Builtin.append_, run_underlying' ht, run_underlying' hu, sizeOf, typeInfo, zeroValue, hi, hz, hl1, hl2, ho2, hn, h63', h48', Question.forced, newRow, grownCap]
  all_goals (congr 2; apply Array.ext'; simp)
theorem run_append_fits' {P : Program} (w : World) {t u el : TypeId} {inf : TypeInfo} {d : TypeDesc} (ht : P.underlying t = some (.slice el)) (hu : P.underlying u = some d) (hnd : srcT d = true) (hi : P.info? el = some inf)
    {a : Addr} {n c m : Nat} {x : Value} {news : List Value} (hlen : ∀ W : World, W.heap = w.heap → (Builtin.lenOf x).run P W = .ok m W ∧ (Builtin.firstCells inf.size m x).run P W = .ok news.toArray W) (hg : n + m ≤ c) (ty : TypeId) {w' : World} (hst : (storeCells (a.add (n * inf.size)) news).run P w = .ok () w') :
    (Builtin.append_ #[t, u] ty #[.slice (some a) n c, x]).run P w = .ok (.slice (some a) (n + m) c) w' := by
  obtain ⟨hl1, hl2⟩ := hlen w rfl
  cases d <;> cases hnd <;> simp [Builtin.append_, run_underlying' ht, run_underlying' hu, sizeOf, typeInfo, hi, hl1, hl2, hg, hst]
theorem run_append_none' {P : Program} (w : World) {t u el : TypeId} {inf : TypeInfo} {d : TypeDesc} (ht : P.underlying t = some (.slice el)) (hu : P.underlying u = some d) (hnd : srcT d = true) (hi : P.info? el = some inf)
    {base : Option Addr} {n c : Nat} {x : Value} (hlen : ∀ W : World, W.heap = w.heap → (Builtin.lenOf x).run P W = .ok 0 W ∧ (Builtin.firstCells inf.size 0 x).run P W = .ok (#[] : Array Value) W) (hg : n ≤ c) (ty : TypeId) :
    (Builtin.append_ #[t, u] ty #[.slice base n c, x]).run P w = .ok (.slice base n c) w := by
  obtain ⟨hl1, hl2⟩ := hlen w rfl
  cases base <;> cases d <;> cases hnd <;> simp [Builtin.append_, run_underlying' ht, run_underlying' hu, sizeOf, typeInfo, hi, hl1, hl2, hg, storeCells]

def roomOk (k bytes : Nat) : Bool := Nat.ble (k * bytes) 140737488355328 && Nat.ble k 4611686018427387904
def aAppend (P : Program) (t u : TypeId) (s x : Value) (fid : Nat) (H : AHeap) : Option (Value × AHeap) :=
  match P.underlying t, P.underlying u with
  | some (.slice el), some d => cond (srcT d) (match P.info? el with
    | some inf => match inf.zero, addCells inf.size x H with
      | some _, some (m, news) => match s with
        | .slice none 0 0 => cond (Nat.beq m 0) (some (s, H)) (cond (roomOk m inf.bytes) (some (.slice (some ⟨fid, 0, none⟩) m 0, newRowA fid news el inf.size H)) none)
        | .slice (some ⟨i, o, none⟩) n c => cond (Nat.beq m 0) (some (s, H)) (match H.get i with
          | some (.row cells elem esz own) => match cut cells o (n * inf.size) with
            | some olds => cond (roomOk (n + m) inf.bytes) (match c with
              | 0 => cond (own && (Nat.beq esz inf.size && (Nat.beq elem el && news.all oneV))) (some (.slice (some ⟨fid, 0, none⟩) (n + m) 0, (H.upd i none).add fid (.row (olds ++ news) el inf.size true))) none
              | c + 1 => cond (Nat.ble (n + m) c) (cond own ((aStoreCells i elem esz H cells (o + n * inf.size) news).map fun H' => (.slice (some ⟨i, o, none⟩) (n + m) (c + 1), H')) none)
                  (some (.slice (some ⟨fid, 0, none⟩) (n + m) 0, newRowA fid (olds ++ news) el inf.size H))) none
            | none => none
          | _ => none)
        | _ => none
      | _, _ => none
    | none => none) none
  | _, _ => none

theorem grownCap_bounds (w : World) (need old : Nat) (e : TypeId) (h : need ≤ 4611686018427387904) : need ≤ grownCap w need old e ∧ grownCap w need old e ≤ 9223372036854775807 := by
  have hp : (2 : Nat) ^ 63 = 9223372036854775808 := by decide
  simp only [grownCap, Question.cut, hp]
  have := Nat.mod_lt (w.tape w.drawn (.appendCap need old e)) (show 0 < 9223372036854775808 - need by omega)
  omega
theorem app_vr {β : Ren} {a b a' b' : List Value} (hl : a.length = a'.length) (h1 : ∀ (j : Nat) (x y : Value), a[j]? = some x → a'[j]? = some y → VR β x y) (h2 : ∀ (j : Nat) (x y : Value), b[j]? = some x → b'[j]? = some y → VR β x y) :
    ∀ (j : Nat) (x y : Value), (a ++ b)[j]? = some x → (a' ++ b')[j]? = some y → VR β x y := by
  intro j x y hx hy
  by_cases hj : j < a.length
  · rw [List.getElem?_append_left hj] at hx
    rw [List.getElem?_append_left (by omega)] at hy
    exact h1 j x y hx hy
  · rw [List.getElem?_append_right (by omega)] at hx
    rw [List.getElem?_append_right (by omega)] at hy
    rw [← hl] at hy
    exact h2 _ x y hx hy

/-- the new row that append makes -/
theorem append_new {β : Ren} {H : AHeap} {w : World} (hr : Rel β H w) {fid : Nat} (hf : β fid = none) (hn : fid < H.next) {cells cells' rest : List Value} {el : TypeId} {size k cap : Nat} (hl : cells.length = cells'.length) (hks : cells.length = k * size) (hkc : k ≤ cap) (hcm : cap ≤ 9223372036854775807)
    (hrest : rest.length = (cap - k) * size) (hc : ∀ (j : Nat) (x y : Value), cells[j]? = some x → cells'[j]? = some y → VR β x y) :
    ∃ β', VR β' (.slice (some ⟨fid, 0, none⟩) k 0) (.slice (some ⟨w.heap.size, 0, none⟩) k cap) ∧ Goes β H w β' (newRowA fid cells el size H) (w.drew.alloc (.cells (cells' ++ rest).toArray el)) ∧ ∀ i, i ≠ fid → β' i = β i := by
  have g := (Goes.drew hr).trans (goes_newRow hr.drew hf hn rest el size hl hc)
  refine ⟨_, .slice (s := ⟨w.heap.size, 0, size, (cells' ++ rest).length, true⟩) (Ren.put_same ..) hkc hcm (.inr ⟨rfl, fun _ => ?_⟩), g, put_other⟩
  simp only [List.length_append, hrest, ← hl, hks, ← Nat.add_mul]
  rw [show k + (cap - k) = cap from by omega]; omega

theorem zeroCells_len {z : Array Value} {n size : Nat} (h : z.size = size) : (Builtin.zeroCells z n).toList.length = n * size := by
  simp [Builtin.zeroCells, h]
/-- what the program's table must say: a zero value has its type's size -/
def zeroOk (P : Program) (t : TypeId) : Bool := match P.info? t with
  | some inf => match inf.zero with
    | some z => Nat.beq z.cells.size inf.size
    | none => false
  | none => false

theorem fits_append {P : Program} {o : Oper} {ρ : Operand → Value} {t u : TypeId} {x y : Operand} {v : Value} {H' : AHeap} (ho : o.op = .call { callee := .builtin .append, args := #[x, y], argTypes := #[t, u] }) (fid : Nat) (H : AHeap)
    (hz : ∀ el, P.underlying t = some (.slice el) → zeroOk P el = true) (h : aAppend P t u (ρ x) (ρ y) fid H = some (v, H')) : Fits P o ρ fid H v H' := by
  intro β w ρ' hr hf hfn hρ
  have hx := hρ x (by simp [ho, Op.operands, Call.operands])
  have hy := hρ y (by simp [ho, Op.operands, Call.operands])
  have hrun : ∀ (v' : Value) (w' : World), (Builtin.append_ #[t, u] o.type #[ρ' x, ρ' y]).run P w = .ok v' w' → (execOp ρ' o).run P w = .ok (.value v') w' := by
    intro v' w' he
    simp [execOp, ho, resolve, invoke, builtin, he]
  unfold aAppend at h
  split at h
  · rename_i el d ht hu
    cases hnd : srcT d with
    | false => rw [hnd] at h; cases h
    | true =>
      rw [hnd] at h
      simp only [cond] at h
      split at h
      · rename_i inf hinf
        have hz1 := hz el ht
        simp only [zeroOk, hinf] at hz1
        split at h
        · rename_i zz m news hzz hadd
          rw [hzz] at hz1
          have hzs := Nat.eq_of_beq_eq_true hz1
          obtain ⟨news', hn1, hn2, hn3, hn4, hn5⟩ := addCells_vr (P := P) hr hy hadd
          split at h
          · rename_i hsx
            rw [hsx] at hx
            generalize hq : ρ' x = q at hx hrun
            cases hx
            cases hm : Nat.beq m 0 with
            | true =>
              have := Nat.eq_of_beq_eq_true hm; subst this
              simp at h
              obtain ⟨rfl, rfl⟩ := h
              have hn0 : news' = [] := List.eq_nil_of_length_eq_zero (by omega)
              subst hn0
              refine ⟨β, _, w, ⟨_, hrun _ _ (run_append_none' w ht hu hnd hinf hn5 (Nat.le_refl 0) _), .inl rfl⟩, by rw [hsx]; exact .slice0, .refl hr, fun _ _ => rfl, rfl⟩
            | false =>
              have hm0 : m ≠ 0 := fun e => by rw [e] at hm; cases hm
              simp [hm] at h
              cases hro : roomOk m inf.bytes with
              | false => simp [hro] at h
              | true =>
                simp [hro] at h
                obtain ⟨rfl, rfl⟩ := h
                simp [roomOk, Nat.ble_eq] at hro
                have hgc := grownCap_bounds w m 0 el hro.2
                obtain ⟨β', h1, h2, h3⟩ := append_new hr hf hfn (el := el) (size := inf.size) (k := m) (cap := grownCap w m 0 el) (rest := (Builtin.zeroCells zz.cells (grownCap w m 0 el - m)).toList) hn1 hn2 hgc.1 hgc.2 (zeroCells_len hzs) hn3
                have hrr := run_append_more w ht hu hnd hinf hzz (base := none) (n := 0) (c := 0) (olds := []) hn5 (fun W _ => by simp [Builtin.firstCells]) (by omega) (by simpa using hro.1) (by omega) o.type
                simp only [Nat.zero_add, List.nil_append] at hrr
                exact ⟨β', _, _, ⟨_, hrun _ _ hrr, .inl rfl⟩, h1, h2, h3, rfl⟩
          · rename_i i p n c hsx
            cases hm : Nat.beq m 0 with
            | true =>
              have := Nat.eq_of_beq_eq_true hm; subst this
              simp at h
              obtain ⟨rfl, rfl⟩ := h
              have hn0 : news' = [] := List.eq_nil_of_length_eq_zero (by omega)
              subst hn0
              have hx2 := hx
              rw [hsx] at hx
              generalize hq : ρ' x = q at hx hrun hx2
              cases hx with
              | slice hs hn hmm hc => exact ⟨β, _, w, ⟨_, hrun _ _ (run_append_none' w ht hu hnd hinf hn5 hn _), .inl rfl⟩, hx2, .refl hr, fun _ _ => rfl, rfl⟩
              | sliceE hs hmm hc => exact ⟨β, _, w, ⟨_, hrun _ _ (run_append_none' w ht hu hnd hinf hn5 (Nat.zero_le _) _), .inl rfl⟩, hx2, .refl hr, fun _ _ => rfl, rfl⟩
            | false =>
              have hm0 : m ≠ 0 := fun e => by rw [e] at hm; cases hm
              rw [hm] at h
              simp only at h
              split at h
              · rename_i cells elem esz own hi
                split at h
                · rename_i olds holds
                  cases hro : roomOk (n + m) inf.bytes with
                  | false => rw [hro] at h; cases h
                  | true =>
                    rw [hro] at h
                    simp only at h
                    simp [roomOk, Nat.ble_eq] at hro
                    rw [hsx] at hx
                    generalize hq : ρ' x = q at hx hrun
                    -- the model's slice: its block, its place, its cells
                    obtain ⟨s, bp, c', olds', rfl, hs, hbp, hnc, hcm, hcap, hol1, hol2, hol3, hol4⟩ : ∃ (s : Spot) (bp c' : Nat) (olds' : List Value), q = .slice (some ⟨s.blk, bp, none⟩) n c' ∧ β i = some s ∧ (n = 0 ∨ bp = s.shift + p) ∧ n ≤ c' ∧ c' ≤ 9223372036854775807 ∧ (c = c' + 1 ∧ bp = s.shift + p ∨ c = 0 ∧ (s.own = true → bp + c' * s.esz ≤ s.tot)) ∧
                        olds.length = olds'.length ∧ olds.length = n * inf.size ∧ (∀ (j : Nat) (x y : Value), olds[j]? = some x → olds'[j]? = some y → VR β x y) ∧ (∀ j v', olds'[j]? = some v' → w.cell? ((⟨s.blk, bp, none⟩ : Addr).add j) = some v') := by
                      cases hx with
                      | slice hs hn hmm hc =>
                        obtain ⟨l', a1, a2, a3, a4⟩ := rel_piece hr hi hs holds
                        refine ⟨_, _, _, l', rfl, hs, .inr rfl, hn, hmm, ?_, by omega, a2, a4, a3⟩
                        rcases hc with hc | hc
                        · exact .inl ⟨hc, rfl⟩
                        · exact .inr hc
                      | sliceE hs hmm hc =>
                        have : olds = [] := cut_zero (by rwa [Nat.zero_mul] at holds)
                        subst this
                        exact ⟨_, _, _, [], rfl, hs, .inl rfl, Nat.zero_le _, hmm, .inr ⟨rfl, hc⟩, rfl, by simp, fun j x y hx => by simp at hx, fun j v hj => by simp at hj⟩
                    have hfirst : ∀ W : World, W.heap = w.heap → (Builtin.firstCells inf.size n (.slice (some ⟨s.blk, bp, none⟩) n c')).run P W = .ok olds'.toArray W := fun W hW => by
                      refine run_firstCells_some W inf.size n _ n c' olds' (by omega) fun j v hj => ?_
                      have := hol4 j v hj
                      unfold World.cell? at this ⊢
                      rw [hW]; exact this
                    have hnew : c' < n + m → ∃ β' v' w', (∃ n, (execOp ρ' o).run P w = .ok n w' ∧ (n = .value v' ∨ n = .skip ∧ v' = undef)) ∧ VR β' (.slice (some ⟨fid, 0, none⟩) (n + m) 0) v' ∧ Goes β H w β' (newRowA fid (olds ++ news) el inf.size H) w' ∧ (∀ i, i ≠ fid → β' i = β i) := fun hlt => by
                      have hgc := grownCap_bounds w (n + m) c' el hro.2
                      obtain ⟨β', h1, h2, h3⟩ := append_new hr hf hfn (cells := olds ++ news) (cells' := olds' ++ news') (el := el) (size := inf.size) (k := n + m) (cap := grownCap w (n + m) c' el) (rest := (Builtin.zeroCells zz.cells (grownCap w (n + m) c' el - (n + m))).toList) (by simp; omega) (by simp [Nat.add_mul]; omega) hgc.1 hgc.2 (zeroCells_len hzs) (app_vr hol1 hol3 hn3)
                      exact ⟨β', _, _, ⟨_, hrun _ _ (run_append_more w ht hu hnd hinf hzz hn5 hfirst hlt hro.1 (by omega) _), .inl rfl⟩, h1, h2, h3⟩
                    cases c with
                    | succ c =>
                      simp only at h
                      have hcc : c' = c ∧ bp = s.shift + p := by rcases hcap with hcap | hcap <;> omega
                      obtain ⟨rfl, rfl⟩ := hcc
                      cases hble : Nat.ble (n + m) c' with
                      | false =>
                        have hlt : c' < n + m := by
                          rcases Nat.lt_or_ge c' (n + m) with h1 | h1
                          · exact h1
                          · rw [show Nat.ble (n + m) c' = true from by rw [Nat.ble_eq]; exact h1] at hble; cases hble
                        simp [hble] at h
                        obtain ⟨rfl, rfl⟩ := h
                        obtain ⟨β', v', w', a1, a2, a3, a4⟩ := hnew hlt
                        exact ⟨β', v', w', a1, a2, a3, a4, rfl⟩
                      | true =>
                        have hle : n + m ≤ c' := by rwa [Nat.ble_eq] at hble
                        rw [hble] at h
                        cases own with
                        | false => simp at h
                        | true =>
                          simp only at h
                          obtain ⟨H1, hst, he⟩ := Option.map_eq_some_iff.1 h
                          cases he
                          obtain ⟨w', b1, b2, b3, _⟩ := storeCells_goes (P := P) hs (p := p + n * inf.size) news news' H _ w cells (p + n * inf.size) 0 hr hi rfl hn1 hn3 hst
                          refine ⟨β, _, w', ⟨_, hrun _ _ (run_append_fits' w ht hu hnd hinf hn5 hle _ (w' := w') ?_), .inl rfl⟩, .slice hs hle hcm (.inl rfl), b2, fun _ _ => rfl, b3⟩
                          rw [add_none, Nat.add_assoc]; exact b1
                    | zero =>
                      simp only at h
                      cases hcnd : (own && (Nat.beq esz inf.size && (Nat.beq elem el && news.all oneV))) with
                      | false => rw [hcnd] at h; cases h
                      | true =>
                        rw [hcnd] at h
                        simp only [Option.some.injEq, Prod.mk.injEq] at h
                        obtain ⟨rfl, rfl⟩ := h
                        simp only [Bool.and_eq_true] at hcnd
                        obtain ⟨rfl, hez, hel, hone⟩ := hcnd
                        have hez := Nat.eq_of_beq_eq_true hez
                        have hel := Nat.eq_of_beq_eq_true hel
                        subst hez hel
                        have hob := hr.obj _ _ _ hi hs
                        have hso : s.own = true := hob.1.symm
                        obtain ⟨hse, cc, fz, hcc1, hcc2, hcc3⟩ := hob.2.2 rfl
                        have hcap2 : bp + c' * inf.size ≤ s.tot := by
                          rcases hcap with h0 | h0
                          · omega
                          · rw [hse] at h0; exact h0.2 hso
                        by_cases hlt : c' < n + m
                        · -- no room
                          obtain ⟨β', v', w', a1, a2, a3, a4⟩ := hnew hlt
                          have hki := Goes.kill a3.rel i
                          have hif : i ≠ fid := fun e => by rw [e, hf] at hs; cases hs
                          refine ⟨β', v', w', a1, a2, ⟨a3.le, ?_, a3.os, a3.tape, a3.output, a3.size, a3.keep, ?_, ?_⟩, a4, rfl⟩
                          · refine a3.rel.less (fun j oj sj hj _ => ?_) a3.rel.fresh
                            rw [AHeap.get_add, AHeap.get_upd] at hj
                            show (H.add fid _).get j = _
                            rw [AHeap.get_add]
                            by_cases e : j = fid
                            · rw [if_pos e] at hj ⊢; exact hj
                            · rw [if_neg e] at hj ⊢
                              by_cases e2 : j = i
                              · rw [if_pos e2] at hj; cases hj
                              · rwa [if_neg e2] at hj
                          · rintro b hb ⟨j, oj, sj, hj, q2, q3, q4⟩
                            refine a3.own b hb ⟨j, oj, sj, ?_, q2, q3, q4⟩
                            rw [AHeap.get_add, AHeap.get_upd] at hj
                            show (H.add fid _).get j = _
                            rw [AHeap.get_add]
                            by_cases e : j = fid
                            · rw [if_pos e] at hj ⊢; exact hj
                            · rw [if_neg e] at hj ⊢
                              by_cases e2 : j = i
                              · rw [if_pos e2] at hj; cases hj
                              · rwa [if_neg e2] at hj
                          · rintro b hb ⟨j, oj, sj, hj, q2, q4⟩
                            refine a3.vis b hb ⟨j, oj, sj, ?_, q2, q4⟩
                            rw [AHeap.get_add, AHeap.get_upd] at hj
                            show (H.add fid _).get j = _
                            rw [AHeap.get_add]
                            by_cases e : j = fid
                            · rw [if_pos e] at hj ⊢; exact hj
                            · rw [if_neg e] at hj ⊢
                              by_cases e2 : j = i
                              · rw [if_pos e2] at hj; cases hj
                              · rwa [if_neg e2] at hj
                        · -- room
                          have hle : n + m ≤ c' := by omega
                          have hmul : (n + m) * inf.size ≤ c' * inf.size := Nat.mul_le_mul_right _ hle
                          rw [Nat.add_mul] at hmul
                          have hone' : ∀ v ∈ news', v.oneCell' = true := fun v hv => by
                            obtain ⟨j, hj, rfl⟩ := List.mem_iff_getElem.1 hv
                            have h1 : news[j]? = some (news[j]'(by omega)) := by simp
                            exact oneV_vr (hn3 j _ _ h1 (by simp [hj])) (List.all_eq_true.1 hone _ (List.getElem_mem (by omega)))
                          obtain ⟨w', c2, d1, d2, d3, d4, d5, d6, d7, d8, d9, d10⟩ := run_storeCells_row (P := P) news' w cc (bp + n * inf.size) 0 hcc1 (by omega) (fun j hj => hcc3 j (by omega)) hone'
                          refine ⟨β.put fid ⟨s.blk, bp, inf.size, s.tot, true⟩, _, w', ⟨_, hrun _ _ (run_append_fits' w ht hu hnd hinf hn5 hle _ (w' := w') ?_), .inl rfl⟩, ?_, Goes.move hr hi hs hso hf hfn w' d6 d7 d8 d9 d10 rfl rfl ?_, put_other, rfl⟩
                          · rw [add_none]; exact d1
                          · have hb0 : (⟨s.blk, bp, none⟩ : Addr) = ⟨s.blk, bp + 0, none⟩ := rfl
                            rw [hb0]
                            exact .slice (s := ⟨s.blk, bp, inf.size, s.tot, true⟩) (Ren.put_same ..) hle hcm (.inr ⟨rfl, fun _ => by simpa using hcap2⟩)
                          · have hle' : β.le (β.put fid ⟨s.blk, bp, inf.size, s.tot, true⟩) := β.le_put _ _ hf
                            refine ⟨rfl, fun j v hj => ?_, fun _ => ⟨rfl, c2, fz, d2, d3.trans hcc2, hcc3⟩⟩
                            have hcell : ∀ q, w'.cell? ⟨s.blk, q, none⟩ = c2[q]? := fun q => by simp [World.cell?, d2]
                            simp only [hcell]
                            by_cases hjo : j < olds.length
                            · rw [List.getElem?_append_left hjo] at hj
                              have e1 : olds'[j]? = some (olds'[j]'(by omega)) := by simp
                              refine ⟨olds'[j]'(by omega), ?_, (hol3 j v _ hj e1).mono hle'⟩
                              have h1 := hol4 j _ e1
                              rw [add_none] at h1
                              rw [d4 (bp + j) (by omega)]
                              simpa [World.cell?, hcc1] using h1
                            · rw [List.getElem?_append_right (by omega)] at hj
                              have hjl := (List.getElem?_eq_some_iff.1 hj).1
                              have e1 : news'[j - olds.length]? = some (news'[j - olds.length]'(by omega)) := by simp
                              refine ⟨news'[j - olds.length]'(by omega), ?_, (hn3 _ v _ hj e1).mono hle'⟩
                              have h1 := d5 _ _ e1
                              rwa [show bp + n * inf.size + 0 + (j - olds.length) = bp + j from by omega] at h1
                · cases h
              · cases h
          · cases h
        · cases h
      · cases h
  · cases h
end Go.Proofs.Ytmflapajjghpmaa
