/- slices.Insert (a value more in a list of values, ahead of its end) as a help of the machine: the row moves to a new number. -/
import Derived.Test.YtdfadipfhcikdaaGreatDoorInsA
import Derived.Test.YtdfadipfhcikdaaGreatDoorAmC
set_option linter.unusedSimpArgs false
set_option linter.unusedVariables false
namespace Go.Proofs.YtdfadipfhcikdaaGreatDoor
open Go.RowKit

theorem setCells_row (b : Nat) {e : TypeId} {fz : Nat × Nat} : ∀ (vs : List Value) (o : Nat) (w : World) (c : Array Value), w.heap[b]? = some (.cells c e fz) → ∃ c2, (w.setCells b o vs).heap[b]? = some (.cells c2 e fz) ∧ c2.size = c.size
  | [], _, _, c, h => ⟨c, h, rfl⟩
  | v :: r, o, w, c, h => by
    have h1 : (w.setCell ⟨b, o, none⟩ v).heap[b]? = some (.cells (c.setIfInBounds o v) e fz) := by simp only [World.setCell, Array.getElem?_modify, if_true, h, Option.map_some]; rfl
    obtain ⟨c2, h2, h3⟩ := setCells_row b r (o + 1) _ _ h1
    exact ⟨c2, h2, by simpa using h3⟩
theorem setCells_frame (b : Nat) : ∀ (vs : List Value) (o : Nat) (w : World), (w.setCells b o vs).os = w.os ∧ (w.setCells b o vs).tape = w.tape ∧ (w.setCells b o vs).output = w.output ∧ (w.setCells b o vs).heap.size = w.heap.size ∧ ∀ k, k ≠ b → (w.setCells b o vs).heap[k]? = w.heap[k]?
  | [], _, _ => ⟨rfl, rfl, rfl, rfl, fun _ _ => rfl⟩
  | v :: r, o, w => by
    obtain ⟨h1, h2, h3, h4, h5⟩ := setCells_frame b r (o + 1) (w.setCell ⟨b, o, none⟩ v)
    exact ⟨h1, h2, h3, by rw [World.setCells, h4]; simp [World.setCell], fun k hk => by rw [World.setCells, h5 k hk]; exact Below.heap_setCell _ _ _ _ hk⟩

/-- a row that the library has made -/
theorem goes_born {β : Ren} {H : AHeap} {w W : World} (hr : Rel β H w) (G : Goes β H w β H W) {s : Spot} {o : AObj} (hown : s.own = true) (ho : ∀ β' : Ren, β.le β' → ObjOk β' W s o) (hlo : w.heap.size ≤ s.blk) (hhi : s.blk < W.heap.size) :
    Goes β H w (β.put H.next s) { H.add H.next o with next := H.next + 1 } W := by
  have hap : ∀ k ok sk, H.get k = some ok → β k = some sk → sk.blk ≠ s.blk := fun k ok sk hk hsk => by have := hr.blk k sk hsk; omega
  have hle : β.le (β.put H.next s) := β.le_put H.next s (hr.fresh _ (Nat.le_refl _))
  have hget : ∀ i, ({ H.add H.next o with next := H.next + 1 } : AHeap).get i = if i = H.next then some o else H.get i := fun i => AHeap.get_add H H.next o i
  have hold : ∀ {i : Nat} {si : Spot}, β.put H.next s i = some si → (i = H.next ∧ si = s) ∨ (i ≠ H.next ∧ β i = some si) := by
    intro i si hi
    by_cases e : i = H.next
    · subst e; rw [Ren.put_same] at hi; cases hi; exact .inl ⟨rfl, rfl⟩
    · rw [Ren.put_other β s e] at hi; exact .inr ⟨e, hi⟩
  refine ⟨hle, ⟨?_, ?_, ?_, ?_⟩, G.os, G.tape, G.output, G.size, G.keep, ?_, ?_⟩
  · intro i oi si a b
    rw [hget] at a
    rcases hold b with ⟨rfl, rfl⟩ | ⟨e, b⟩
    · rw [if_pos rfl] at a; cases a; exact ho _ hle
    · rw [if_neg e] at a
      exact (G.rel.obj i oi si a b).mono hle rfl
  · intro i si b
    rcases hold b with ⟨rfl, rfl⟩ | ⟨e, b⟩
    · exact hhi
    · exact G.rel.blk i si b
  · intro i j oi oj si sj a b c d hij hso
    rw [hget] at a b
    rcases hold c with ⟨rfl, rfl⟩ | ⟨e, c⟩ <;> rcases hold d with ⟨rfl, rfl⟩ | ⟨e2, d⟩
    · exact absurd rfl hij
    · rw [if_neg e2] at b; exact (hap _ _ _ b d).symm
    · rw [if_neg e] at a; exact hap _ _ _ a ‹β i = some si›
    · rw [if_neg e] at a; rw [if_neg e2] at b
      exact G.rel.apart i j oi oj si sj a b c d hij hso
  · intro i hi
    have hi : H.next + 1 ≤ i := hi
    rw [Ren.put_other β s (by omega)]
    exact hr.fresh i (by omega)
  · rintro b hb ⟨i, oi, si, a, c, d, e⟩
    rw [hget] at a
    rcases hold c with ⟨rfl, rfl⟩ | ⟨e2, c⟩
    · omega
    · rw [if_neg e2] at a; exact ⟨i, oi, si, a, c, d, e⟩
  · rintro b hb ⟨i, oi, si, a, c, e⟩
    rw [hget] at a
    rcases hold c with ⟨rfl, rfl⟩ | ⟨e2, c⟩
    · omega
    · rw [if_neg e2] at a; exact ⟨i, oi, si, a, c, e⟩

def insFn (args : List Value) (H : AHeap) : Option (Value × AHeap) := match args with
  | [.slice (some ⟨i, p, none⟩) n c, .int .i64 (.ofNat k), .slice (some ⟨j, q, none⟩) m _] => match H.get i, H.get j with
    | some (.row ci el ez w1), some (.row cj _ _ w2) => match cut ci p (n * 2), cut cj q 2 with
      | some olds, some news => cond (Nat.beq c 0 && (Nat.beq m 1 && (Nat.blt k n && (!(Nat.beq i j) && (Nat.ble ((n + 1) * 16) 140737488355328 && (w1 && (w2 && (Nat.beq ez 2 && (olds.all oneV && (news.all oneV && Nat.beq el 29))))))))))
          (some (.slice (some ⟨H.next, 0, none⟩) (n + 1) 0, { (H.upd i none).add H.next (.row (olds.take (k * 2) ++ (news ++ olds.drop (k * 2))) el 2 true) with next := H.next + 1 })) none
      | _, _ => none
    | _, _ => none
  | _ => none

theorem one_cells {β : Ren} {l l' : List Value} (hl : l.length = l'.length) (h : l.all oneV = true) (hv : ∀ (j : Nat) (x y : Value), l[j]? = some x → l'[j]? = some y → VR β x y) : ∀ v ∈ l', v.oneCell' = true := fun v hm => by
  obtain ⟨j, hj, rfl⟩ := List.mem_iff_getElem.1 hm
  exact oneV_vr (hv j _ _ (List.getElem?_eq_getElem (by omega)) (List.getElem?_eq_getElem hj)) (List.all_eq_true.1 h _ (List.getElem_mem (by omega)))

theorem cell_row {W : World} {b : Nat} {c : Array Value} {e : TypeId} {fz : Nat × Nat} (h : W.heap[b]? = some (.cells c e fz)) (j : Nat) : W.cell? ⟨b, j, none⟩ = c[j]? := by simp [World.cell?, h]
/-- what lies there when two pieces were put into a row -/
theorem put_two {W : World} {b off K : Nat} {l1 l2 : List Value} {n : Nat} (hl1 : l1.length = n * 2) (hl2 : l2.length = 2) (hk : K < n)
    (h1 : ∀ j, j < (n + 1) * 2 → (W.cell? ⟨b, off + j, none⟩).isSome = true) (hold : ∀ j v, l1[j]? = some v → j < K * 2 → W.cell? ⟨b, off + j, none⟩ = some v) :
    (∀ (j : Nat) (y : Value), (l1.take (K * 2) ++ (l2 ++ l1.drop (K * 2)))[j]? = some y → ((W.setCells b (off + K * 2) l2).setCells b (off + (K + 1) * 2) (l1.drop (K * 2))).cell? ⟨b, off + j, none⟩ = some y) ∧
    (∀ (j : Nat) (y : Value), (l1.take (K * 2) ++ (l2 ++ l1.drop (K * 2)))[j]? = some y → ((W.setCells b (off + (K + 1) * 2) (l1.drop (K * 2))).setCells b (off + K * 2) l2).cell? ⟨b, off + j, none⟩ = some y) := by
  have hd : (l1.drop (K * 2)).length = (n - K) * 2 := by rw [List.length_drop, hl1]; omega
  have ht : (l1.take (K * 2)).length = K * 2 := by rw [List.length_take]; omega
  have key : ∀ (j : Nat) (y : Value), (l1.take (K * 2) ++ (l2 ++ l1.drop (K * 2)))[j]? = some y → (j < K * 2 ∧ l1[j]? = some y) ∨ (K * 2 ≤ j ∧ j < (K + 1) * 2 ∧ l2[j - K * 2]? = some y) ∨ ((K + 1) * 2 ≤ j ∧ j < (n + 1) * 2 ∧ (l1.drop (K * 2))[j - (K + 1) * 2]? = some y) := fun j y hy => by
    by_cases hj : j < K * 2
    · rw [List.getElem?_append_left (by omega), List.getElem?_take, if_pos hj] at hy
      exact .inl ⟨hj, hy⟩
    · rw [List.getElem?_append_right (by omega), ht] at hy
      by_cases hj2 : j - K * 2 < 2
      · rw [List.getElem?_append_left (by omega)] at hy
        exact .inr (.inl ⟨by omega, by omega, hy⟩)
      · rw [List.getElem?_append_right (by omega), hl2] at hy
        have := (List.getElem?_eq_some_iff.1 hy).1
        exact .inr (.inr ⟨by omega, by omega, by rw [show j - (K + 1) * 2 = j - K * 2 - 2 by omega]; exact hy⟩)
  have isA : ∀ j, j < l2.length → (W.cell? ⟨b, off + K * 2 + j, none⟩).isSome = true := fun j hj => by rw [Nat.add_assoc]; exact h1 _ (by omega)
  have isB : ∀ j, j < (l1.drop (K * 2)).length → (W.cell? ⟨b, off + (K + 1) * 2 + j, none⟩).isSome = true := fun j hj => by rw [Nat.add_assoc]; exact h1 _ (by omega)
  refine ⟨fun j y hy => ?_, fun j y hy => ?_⟩
  · rcases key j y hy with ⟨hj, hy⟩ | ⟨hj, hj2, hy⟩ | ⟨hj, hj2, hy⟩
    · rw [World.cell?_setCells_out _ _ _ _ _ (fun _ _ => .inl (by show off + j < _; omega)), World.cell?_setCells_out _ _ _ _ _ (fun _ _ => .inl (by show off + j < _; omega))]
      exact hold j y hy hj
    · rw [World.cell?_setCells_out _ _ _ _ _ (fun _ _ => .inl (by show off + j < _; omega))]
      have hlt := (List.getElem?_eq_some_iff.1 hy).1
      have := World.cell?_setCells_in b l2 (off + K * 2) W isA (j - K * 2) hlt
      rw [show off + K * 2 + (j - K * 2) = off + j by omega] at this
      rw [this]; rw [List.getElem?_eq_getElem hlt] at hy; exact hy
    · have hlt := (List.getElem?_eq_some_iff.1 hy).1
      have := World.cell?_setCells_in b (l1.drop (K * 2)) (off + (K + 1) * 2) (W.setCells b (off + K * 2) l2) (fun j hj => isSome_cells _ _ _ _ isA _ (isB j hj)) (j - (K + 1) * 2) hlt
      rw [show off + (K + 1) * 2 + (j - (K + 1) * 2) = off + j by omega] at this
      rw [this]; rw [List.getElem?_eq_getElem hlt] at hy; exact hy
  · rcases key j y hy with ⟨hj, hy⟩ | ⟨hj, hj2, hy⟩ | ⟨hj, hj2, hy⟩
    · rw [World.cell?_setCells_out _ _ _ _ _ (fun _ _ => .inl (by show off + j < _; omega)), World.cell?_setCells_out _ _ _ _ _ (fun _ _ => .inl (by show off + j < _; omega))]
      exact hold j y hy hj
    · have hlt := (List.getElem?_eq_some_iff.1 hy).1
      have := World.cell?_setCells_in b l2 (off + K * 2) (W.setCells b (off + (K + 1) * 2) (l1.drop (K * 2))) (fun j hj => isSome_cells _ _ _ _ isB _ (isA j hj)) (j - K * 2) hlt
      rw [show off + K * 2 + (j - K * 2) = off + j by omega] at this
      rw [this]; rw [List.getElem?_eq_getElem hlt] at hy; exact hy
    · rw [World.cell?_setCells_out _ _ _ _ _ (fun _ _ => .inr (by show off + K * 2 + l2.length ≤ off + j; omega))]
      have hlt := (List.getElem?_eq_some_iff.1 hy).1
      have := World.cell?_setCells_in b (l1.drop (K * 2)) (off + (K + 1) * 2) W isB (j - (K + 1) * 2) hlt
      rw [show off + (K + 1) * 2 + (j - (K + 1) * 2) = off + j by omega] at this
      rw [this]; rw [List.getElem?_eq_getElem hlt] at hy; exact hy

theorem ins_log {H : AHeap} {i : Nat} {o : AObj} (hi : H.get i ≠ none) (hwf : WF H) : LogLe H.next H { (H.upd i none).add H.next o with next := H.next + 1 } := by
  have hget : ∀ j, ({ (H.upd i none).add H.next o with next := H.next + 1 } : AHeap).get j = if j = H.next then some o else if j = i then none else H.get j := fun j => by
    show ((H.upd i none).add H.next o).get j = _
    rw [AHeap.get_add, AHeap.get_upd]
  have hin : i < H.next := by
    rcases Nat.lt_or_ge i H.next with h | h
    · exact h
    · exact absurd (hwf i h) hi
  refine ⟨fun j hj hn => ?_, fun j hj => (mem_note i j H.log).2 (.inr hj), Nat.le_succ _, fun j hj hd => ?_, fun _ j hj => ?_, fun j hj => ?_⟩
  · have : j ≠ i := fun e => hn ((mem_note i j H.log).2 (.inl e))
    rw [hget, if_neg (by omega), if_neg this]
  · rw [hget, if_neg (by omega), hd]; split <;> rfl
  · have hj : H.next + 1 ≤ j := hj
    rw [hget, if_neg (by omega), if_neg (by omega)]; exact hwf j (by omega)
  · rcases (mem_note i j H.log).1 hj with rfl | h
    · exact .inr (.inl hi)
    · exact .inl h

theorem ins_owed {gs : List Nat} {args : List Value} {v : Value} {H H' : AHeap} (h : insFn args H = some (v, H')) (hwf : WF H) : Owed Tryz.prog gs 109 args H v H' := by
  unfold insFn at h
  split at h
  · rename_i i p n c k j q m c2
    split at h
    · rename_i ci el ez w1 cj el2 ez2 w2 hi hj
      split at h
      · rename_i olds news ho hnw
        cases hc : (Nat.beq c 0 && (Nat.beq m 1 && (Nat.blt k n && (!(Nat.beq i j) && (Nat.ble ((n + 1) * 16) 140737488355328 && (w1 && (w2 && (Nat.beq ez 2 && (olds.all oneV && (news.all oneV && Nat.beq el 29)))))))))) with
        | false => rw [hc] at h; cases h
        | true =>
          rw [hc] at h
          cases h
          simp only [Bool.and_eq_true, Bool.not_eq_true', Nat.blt_eq, Nat.ble_eq] at hc
          obtain ⟨a1, a2, a3, a4, a5, rfl, rfl, a6, a7, a8, a9⟩ := hc
          have a1 := Nat.eq_of_beq_eq_true a1
          have a2 := Nat.eq_of_beq_eq_true a2
          have a6 := Nat.eq_of_beq_eq_true a6
          have a9 := Nat.eq_of_beq_eq_true a9
          have hij : i ≠ j := fun e => by rw [e, Nat.beq_refl] at a4; cases a4
          subst a1 a2 a6
          refine ⟨ins_log (by rw [hi]; exact fun e => by cases e) hwf, fun β w args' hr hg hargs => ?_⟩
          obtain ⟨q1, q2, q3, rfl⟩ : ∃ q1 q2 q3, args' = [q1, q2, q3] := by
            have hl := hargs.1
            match args', hl with
            | [q1, q2, q3], _ => exact ⟨q1, q2, q3, rfl⟩
          have h1 := hargs.2 0 _ _ rfl rfl
          have h2 := hargs.2 1 _ _ rfl rfl
          have h3 := hargs.2 2 _ _ rfl rfl
          cases h2
          obtain ⟨s, c', rfl, hs, hn, hm, hcap⟩ : ∃ (s : Spot) (c' : Nat), q1 = .slice (some ⟨s.blk, s.shift + p, none⟩) n c' ∧ β i = some s ∧ n ≤ c' ∧ c' ≤ 9223372036854775807 ∧ (s.own = true → s.shift + p + c' * s.esz ≤ s.tot) := by
            cases h1 with
            | slice hs hn hm hc => exact ⟨_, _, rfl, hs, hn, hm, by rcases hc with hc | ⟨_, hc⟩; omega; exact hc⟩
            | sliceE => omega
          obtain ⟨s2, c3, rfl, hs2⟩ : ∃ (s : Spot) (c' : Nat), q3 = .slice (some ⟨s.blk, s.shift + q, none⟩) 1 c' ∧ β j = some s := by
            cases h3 with
            | slice hs hn hm hc => exact ⟨_, _, rfl, hs⟩
          obtain ⟨l1, b1, b2, b3, b4⟩ := rel_piece hr hi hs ho
          obtain ⟨l2, d1, d2, d3, d4⟩ := rel_piece hr hj hs2 hnw
          have hob := hr.obj _ _ _ hi hs
          have hob2 := hr.obj _ _ _ hj hs2
          have hso : s.own = true := hob.1.symm
          have hso2 : s2.own = true := hob2.1.symm
          obtain ⟨e1, cc, fz, e2, e3, e4⟩ := hob.2.2 rfl
          obtain ⟨f1, cc2, fz2, f2, f3, f4⟩ := hob2.2.2 rfl
          have hbb : s2.blk ≠ s.blk := (hr.apart i j _ _ s s2 hi hj hs hs2 hij hso).symm
          have hcap := hcap hso
          rw [e1] at hcap
          have k1 : ∀ j v, l1[j]? = some v → w.cell? ⟨s.blk, s.shift + p + j, none⟩ = some v := fun j v h => by have := b3 j v h; rwa [add_none] at this
          have k2 : ∀ j v, l2[j]? = some v → w.cell? ⟨s2.blk, s2.shift + q + j, none⟩ = some v := fun j v h => by have := d3 j v h; rwa [add_none] at this
          have o1 := one_cells (by omega) a7 b4
          have o2 := one_cells (by omega) a8 d4
          have hres : ∀ (j : Nat) (x y : Value), (olds.take (k * 2) ++ (news ++ olds.drop (k * 2)))[j]? = some x → (l1.take (k * 2) ++ (l2 ++ l1.drop (k * 2)))[j]? = some y → VR β x y := by
            refine app_vr (by simp only [List.length_take]; omega) (fun j x y hx hy => ?_) (app_vr (by omega) d4 fun j x y hx hy => ?_)
            · rw [List.getElem?_take] at hx hy
              split at hx
              · rename_i hjj; rw [if_pos hjj] at hy; exact b4 j x y hx hy
              · cases hx
            · rw [List.getElem?_drop] at hx hy; exact b4 _ x y hx hy
          have hcl : cc.size = s.tot := e3
          rcases Nat.lt_or_ge c' (n + 1) with hroom | hroom
          · -- a new row
            refine (ins_grow s.blk (s.shift + p) n c' k s2.blk (s2.shift + q) c3 l1 l2 w a3 hn hroom a5 b1 d1 k1 k2 o1 o2).mono ?_
            rintro e w' ⟨G, g1, g2, rfl, ROW, g3, g4, g5⟩
            have r0 : ((w.alloc (.cells ROW 29)).drew).heap[w.heap.size]? = some (.cells ROW 29 (0, 0)) := heap_alloc_new w _
            obtain ⟨c1, r1, r2⟩ := setCells_row w.heap.size l2 (k * 2) _ _ r0
            have r1' : (((w.alloc (.cells ROW 29)).drew.setCells w.heap.size (k * 2) l2).drew).heap[w.heap.size]? = some (.cells c1 29 (0, 0)) := r1
            obtain ⟨c4, r3, r4⟩ := setCells_row w.heap.size (l1.drop (k * 2)) ((k + 1) * 2) _ _ r1'
            rw [← g5] at r3
            have hdrew : ∀ (W : World) (vs : List Value) (o b : Nat), (W.setCells b o vs).drew = W.drew.setCells b o vs := fun W vs => by
              induction vs generalizing W with
              | nil => intro o b; rfl
              | cons v r ih => intro o b; rw [World.setCells, World.setCells, ih]; rfl
            rw [hdrew] at g5
            have hcells := (put_two (W := ((w.alloc (.cells ROW 29)).drew).drew) (b := w.heap.size) (off := 0) (K := k) (l1 := l1) (l2 := l2) (n := n) b1 d1 a3 (fun j hj => by
              have := cell_row (W := ((w.alloc (.cells ROW 29)).drew).drew) r0 (0 + j)
              rw [this, Array.getElem?_eq_getElem (by omega)]; rfl) (fun j v hv hj => by
              have hjl := (List.getElem?_eq_some_iff.1 hv).1
              have := cell_row (W := ((w.alloc (.cells ROW 29)).drew).drew) r0 (0 + j)
              rw [this, Nat.zero_add, Array.getElem?_eq_getElem (show j < ROW.size by omega)]
              have := g4 j _ (Array.getElem?_eq_getElem (show j < ROW.size by omega)) hj
              rw [hv] at this; exact this.symm)).1
            simp only [Nat.zero_add] at hcells
            rw [← g5] at hcells
            obtain ⟨p1, p2, p3, p4, p5⟩ := setCells_frame w.heap.size l2 (k * 2) ((w.alloc (.cells ROW 29)).drew).drew
            obtain ⟨q1, q2, q3, q4, q5⟩ := setCells_frame w.heap.size (l1.drop (k * 2)) ((k + 1) * 2) (((w.alloc (.cells ROW 29)).drew).drew.setCells w.heap.size (k * 2) l2)
            rw [← g5] at q1 q2 q3 q4 q5
            have hsz : (w.alloc (.cells ROW 29)).heap.size = w.heap.size + 1 := by simp
            have hsz2 : w'.heap.size = w.heap.size + 1 := by rw [q4, p4]; exact hsz
            have hbel : Below w.heap.size w w' := ⟨by rw [q1, p1]; rfl, by rw [q2, p2]; rfl, by rw [q3, p3]; rfl, by omega, fun b hb => by
              rw [q5 b (by omega), p5 b (by omega)]; exact Below.heap_alloc _ _ _ hb⟩
            have gk := Goes.kill hr i
            have gb := goes_born (s := ⟨w.heap.size, 0, 2, G * 2, true⟩) (o := .row (olds.take (k * 2) ++ (news ++ olds.drop (k * 2))) el 2 true) gk.rel (below_goes gk.rel hbel) rfl (fun β' hle => ⟨rfl, fun j v hj => by
              have hlen : (olds.take (k * 2) ++ (news ++ olds.drop (k * 2))).length = (l1.take (k * 2) ++ (l2 ++ l1.drop (k * 2))).length := by simp only [List.length_append, List.length_take, List.length_drop]; omega
              have hjl := (List.getElem?_eq_some_iff.1 hj).1
              refine ⟨_, by rw [Nat.zero_add]; exact hcells j _ (List.getElem?_eq_getElem (by omega)), (hres j v _ hj (List.getElem?_eq_getElem (by omega))).mono hle⟩, fun _ => ⟨rfl, c4, (0, 0), by rw [a9]; exact r3, by rw [r4, r2]; exact g3, fun j _ => by simp⟩⟩) (Nat.le_refl _) (by show w.heap.size < _; omega)
            refine ⟨.slice (some ⟨w.heap.size, 0, none⟩) (n + 1) G, _, rfl, ?_, gk.trans gb, fun j hj => Ren.put_other _ _ (by show j ≠ H.next; omega)⟩
            exact .slice (s := ⟨w.heap.size, 0, 2, G * 2, true⟩) (Ren.put_same ..) g1 g2 (.inr ⟨rfl, fun _ => by show 0 + 0 + G * 2 ≤ G * 2; omega⟩)
          · -- in place
            have hin : ∀ j, j < (n + 1) * 2 → (w.cell? ⟨s.blk, s.shift + p + j, none⟩).isSome = true := fun j hj => by
              rw [cell_row e2, Array.getElem?_eq_getElem (by omega)]; rfl
            refine (ins_shift s.blk (s.shift + p) n c' k s2.blk (s2.shift + q) c3 l1 l2 w a3 hroom hm hbb b1 d1 k1 hin (fun j hj => by simp only [World.frozen?, e2]; exact e4 _ (.inr rfl)) k2 o1 o2 el2 el cc2.size cc.size (by simp [World.shape?, f2]) (by simp [World.shape?, e2]) (by omega) (by simp only [World.frozen?, f2]; exact f4 _ (.inr rfl)) (by simp only [World.frozen?, f2]; exact f4 _ (.inr rfl))).mono ?_
            rintro e w' ⟨rfl, g5⟩
            obtain ⟨c1, r1, r2⟩ := setCells_row s.blk (l1.drop (k * 2)) (s.shift + p + (k + 1) * 2) w.drew _ e2
            obtain ⟨c4, r3, r4⟩ := setCells_row s.blk l2 (s.shift + p + k * 2) _ _ r1
            obtain ⟨p1, p2, p3, p4, p5⟩ := setCells_frame s.blk (l1.drop (k * 2)) (s.shift + p + (k + 1) * 2) w.drew
            obtain ⟨q1, q2, q3, q4, q5⟩ := setCells_frame s.blk l2 (s.shift + p + k * 2) (w.drew.setCells s.blk (s.shift + p + (k + 1) * 2) (l1.drop (k * 2)))
            have hcells := (put_two (W := w.drew) (b := s.blk) (off := s.shift + p) (K := k) (l1 := l1) (l2 := l2) (n := n) b1 d1 a3 hin (fun j v hv _ => k1 j v hv)).2
            rw [← g5] at r3 q1 q2 q3 q4 q5 hcells
            have hr1 : Rel β { H with next := H.next + 1 } w := ⟨hr.obj, hr.blk, hr.apart, fun i hi => hr.fresh i (Nat.le_of_succ_le hi)⟩
            have g0 : Goes β H w β { H with next := H.next + 1 } w := ⟨β.le_refl, hr1, rfl, rfl, rfl, Nat.le_refl _, fun _ _ _ => rfl, fun _ _ h => h, fun _ _ h => h⟩
            have gm := Goes.move hr1 hi hs hso (fid := H.next) (o' := .row (olds.take (k * 2) ++ (news ++ olds.drop (k * 2))) el 2 true) (s' := ⟨s.blk, s.shift + p, 2, s.tot, true⟩) (hr.fresh _ (Nat.le_refl _)) (Nat.lt_succ_self _) w' (by rw [q1, p1]; rfl) (by rw [q2, p2]; rfl) (by rw [q3, p3]; rfl) (by rw [q4, p4]; rfl) (fun b hb => by rw [q5 b hb, p5 b hb]; rfl) rfl rfl (⟨rfl, fun j v hj => by
              have hlen : (olds.take (k * 2) ++ (news ++ olds.drop (k * 2))).length = (l1.take (k * 2) ++ (l2 ++ l1.drop (k * 2))).length := by simp only [List.length_append, List.length_take, List.length_drop]; omega
              have hjl := (List.getElem?_eq_some_iff.1 hj).1
              refine ⟨_, hcells j _ (List.getElem?_eq_getElem (by omega)), (hres j v _ hj (List.getElem?_eq_getElem (by omega))).mono (β.le_put _ _ (hr.fresh _ (Nat.le_refl _)))⟩, fun _ => ⟨rfl, c4, fz, r3, by rw [r4, r2]; exact e3, e4⟩⟩)
            refine ⟨.slice (some ⟨s.blk, s.shift + p, none⟩) (n + 1) c', _, rfl, ?_, g0.trans gm, fun j hj => Ren.put_other _ _ (by show j ≠ H.next; omega)⟩
            exact .slice (s := ⟨s.blk, s.shift + p, 2, s.tot, true⟩) (Ren.put_same ..) hroom hm (.inr ⟨rfl, fun _ => by show s.shift + p + 0 + c' * 2 ≤ s.tot; omega⟩)
      · cases h
    · cases h
  · cases h
/-- slices.Insert -/
def insO : Helps := fun g => cond (Nat.beq g 109) (some insFn) none
theorem insO_sound {gs : List Nat} : CallSound Tryz.prog gs (helpFn insO) := fun f args H v H' h hwf => by
  unfold helpFn insO at h
  cases hf : Nat.beq f 109 with
  | false => rw [hf] at h; cases h
  | true =>
    rw [hf] at h
    have := Nat.eq_of_beq_eq_true hf; subst this
    exact ins_owed h hwf
end Go.Proofs.YtdfadipfhcikdaaGreatDoor
