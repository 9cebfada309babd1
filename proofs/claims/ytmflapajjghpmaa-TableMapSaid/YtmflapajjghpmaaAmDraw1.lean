/- A region that draws its order: what is wanted of the parts. -/
import Derived.Test.YtmflapajjghpmaaAmSound2
namespace Go.Proofs.Ytmflapajjghpmaa
open Go.RowKit

/-! ### what has been done, in whatever order -/
open Classical in
noncomputable def cur {α : Type} (X : Nat → α) (T : Nat → Prop) (S : Nat → Bool) : Nat → α
  | 0 => X 0
  | k + 1 => if S k = true ∧ T k then X (k + 1) else cur X T S k
theorem cur_upto {α : Type} {X : Nat → α} {T : Nat → Prop} {S : Nat → Bool} (hX : ∀ k, ¬ T k → X (k + 1) = X k) : ∀ m, (∀ j, j < m → T j → S j = true) → cur X T S m = X m
  | 0, _ => rfl
  | m + 1, h => by
    have ih := cur_upto hX m fun j hj => h j (by omega)
    simp only [cur]
    by_cases hT : T m
    · rw [if_pos ⟨h m (by omega) hT, hT⟩]
    · rw [if_neg (fun hh => hT hh.2), ih, hX m hT]
theorem cur_at {α : Type} {X : Nat → α} {T : Nat → Prop} {S : Nat → Bool} (hX : ∀ k, ¬ T k → X (k + 1) = X k) (k : Nat) : ∀ m, k ≤ m → (∀ j, j < m → T j → (S j = true ↔ j < k)) → cur X T S m = X k
  | m, hkm, h => by
    by_cases e : m = k
    · subst e; exact cur_upto hX m fun j hj hT => (h j hj hT).2 hj
    · obtain ⟨m', rfl⟩ : ∃ m', m = m' + 1 := ⟨m - 1, by omega⟩
      simp only [cur]
      rw [if_neg]
      · exact cur_at hX k m' (by omega) fun j hj => h j (by omega)
      · rintro ⟨h1, h2⟩
        have := (h m' (by omega) h2).1 h1
        omega
theorem cur_skip {α : Type} {X : Nat → α} {T : Nat → Prop} {S S' : Nat → Bool} : ∀ m, (∀ j, j < m → T j → S' j = S j) → cur X T S' m = cur X T S m
  | 0, _ => rfl
  | m + 1, h => by
    have ih := cur_skip (X := X) m fun j hj => h j (by omega)
    simp only [cur, ih]
    by_cases hT : T m
    · rw [h m (by omega) hT]
    · rw [if_neg (fun hh => hT hh.2), if_neg (fun hh => hT hh.2)]
theorem cur_last {α : Type} {X : Nat → α} {T : Nat → Prop} {S : Nat → Bool} {k : Nat} (hS : S k = true) (hT : T k) : ∀ m, k < m → (∀ j, k < j → j < m → S j = true → ¬ T j) → cur X T S m = X (k + 1)
  | m, hkm, h => by
    obtain ⟨m', rfl⟩ : ∃ m', m = m' + 1 := ⟨m - 1, by omega⟩
    simp only [cur]
    by_cases e : m' = k
    · subst e; rw [if_pos ⟨hS, hT⟩]
    · rw [if_neg (fun hh => h m' (by omega) (by omega) hh.1 hh.2)]
      exact cur_last hS hT m' (by omega) fun j h1 h2 => h j h1 (by omega)

/-! ### the memory as a function -/
structure RelF (β : Ren) (h : Nat → Option AObj) (N : Nat) (w : World) : Prop where
  obj : ∀ i o s, h i = some o → β i = some s → ObjOk β w s o
  blk : ∀ i s, β i = some s → s.blk < w.heap.size
  apart : ∀ i j oi oj si sj, h i = some oi → h j = some oj → β i = some si → β j = some sj → i ≠ j → si.own = true → si.blk ≠ sj.blk
  fresh : ∀ i, N ≤ i → β i = none
def OwnF (β : Ren) (h : Nat → Option AObj) (b : Nat) : Prop := ∃ i o s, h i = some o ∧ β i = some s ∧ s.own = true ∧ s.blk = b
def VisF (β : Ren) (h : Nat → Option AObj) (b : Nat) : Prop := ∃ i o s, h i = some o ∧ β i = some s ∧ s.blk = b
theorem RelF.toRel {β : Ren} {h : Nat → Option AObj} {N : Nat} {w : World} (hf : RelF β h N w) (M : AHeap) (hM : ∀ i o s, M.get i = some o → β i = some s → h i = some o) (hN : ∀ i, M.next ≤ i → β i = none) : Rel β M w :=
  ⟨fun i o s a b => hf.obj i o s (hM i o s a b) b, hf.blk, fun i j oi oj si sj a b c d => hf.apart i j oi oj si sj (hM i oi si a c) (hM j oj sj b d) c d, hN⟩

/-- one step, by a part of the memory alone -/
structure StepF (β : Ren) (h : Nat → Option AObj) (M : AHeap) (β' : Ren) (h' : Nat → Option AObj) (M' : AHeap) (fid : Nat) (T : Nat → Prop) : Prop where
  sub : ∀ i o s, M.get i = some o → β i = some s → h i = some o
  on : ∀ i, T i → h' i = M'.get i
  off : ∀ i, ¬ T i → h' i = h i
  part : ∀ i, ¬ T i → M'.get i = M.get i
  at_ : T fid
  new : ∀ i, M.next ≤ i → i < M'.next → T i
  agree : ∀ i, i ≠ fid → i < M.next → β' i = β i

theorem StepF.back {β β' : Ren} {h h' : Nat → Option AObj} {M M' : AHeap} {fid : Nat} {T : Nat → Prop} {w w' : World} (st : StepF β h M β' h' M' fid T) (g : Goes β M w β' M' w') {i : Nat} {s : Spot} (hT : ¬ T i) (hs : β' i = some s) : β i = some s := by
  have hf : i ≠ fid := fun e => hT (e ▸ st.at_)
  by_cases hn : i < M.next
  · rw [← st.agree i hf hn]; exact hs
  · have hn' : ¬ i < M'.next := fun h1 => hT (st.new i (by omega) h1)
    have := g.rel.fresh i (by omega)
    rw [this] at hs; cases hs

theorem RelF.after {β β' : Ren} {h h' : Nat → Option AObj} {N N' : Nat} {M M' : AHeap} {fid : Nat} {T : Nat → Prop} {w w' : World} (hf : RelF β h N w) (st : StepF β h M β' h' M' fid T) (g : Goes β M w β' M' w') (hN : ∀ i, N' ≤ i → β' i = none) : RelF β' h' N' w' := by
  have vis : ∀ i o s, h' i = some o → β' i = some s → (T i ∧ M'.get i = some o) ∨ (¬ T i ∧ h i = some o ∧ β i = some s) := by
    intro i o s a b
    by_cases hT : T i
    · exact .inl ⟨hT, by rw [← st.on i hT]; exact a⟩
    · exact .inr ⟨hT, by rw [← st.off i hT]; exact a, st.back g hT b⟩
  -- an old one that the part does not see lies in a block that no one of the part's has
  have far : ∀ i o s, ¬ T i → h i = some o → β i = some s → (∀ o', M.get i = some o' → False) → ∀ j oj sj, M.get j = some oj → β j = some sj → (s.own = true ∨ sj.own = true) → sj.blk ≠ s.blk := by
    intro i o s hT a b hno j oj sj hj hb hown e
    have hne : j ≠ i := fun e2 => by subst e2; exact hno _ hj
    have hh := st.sub j oj sj hj hb
    rcases hown with ho | ho
    · exact hf.apart i j o oj s sj a hh b hb (Ne.symm hne) ho e.symm
    · exact hf.apart j i oj o sj s hh a hb b hne ho e
  refine ⟨fun i o s a b => ?_, g.rel.blk, ?_, hN⟩
  · rcases vis i o s a b with ⟨_, hm⟩ | ⟨hT, hh, hb⟩
    · exact g.rel.obj i o s hm b
    · cases hM : M.get i with
      | some o' =>
        have := st.sub i o' s hM hb
        rw [hh] at this; cases this
        exact g.rel.obj i o s (by rw [st.part i hT]; exact hM) b
      | none =>
        refine (hf.obj i o s hh hb).mono g.le (g.keep s.blk (hf.blk i s hb) ?_)
        rintro ⟨j, oj, sj, h1, h2, h3, h4⟩
        exact far i o s hT hh hb (fun o' h => by rw [hM] at h; cases h) j oj sj h1 h2 (.inr h3) h4
  · intro i j oi oj si sj a b c d hij hso e
    rcases vis i oi si a c with ⟨hTi, hi⟩ | ⟨hTi, hi, hbi⟩ <;> rcases vis j oj sj b d with ⟨hTj, hj⟩ | ⟨hTj, hj, hbj⟩
    · exact g.rel.apart i j oi oj si sj hi hj c d hij hso e
    · -- i is the part's, j is not turned
      cases hM : M.get j with
      | some o' =>
        have := st.sub j o' sj hM hbj
        rw [hj] at this; cases this
        exact g.rel.apart i j oi oj si sj hi (by rw [st.part j hTj]; exact hM) c d hij hso e
      | none =>
        have hlt := hf.blk j sj hbj
        obtain ⟨i0, o0, s0, h1, h2, h3, h4⟩ := g.own si.blk (by omega) ⟨i, oi, si, hi, c, hso, rfl⟩
        exact far j oj sj hTj hj hbj (fun o' h => by rw [hM] at h; cases h) i0 o0 s0 h1 h2 (.inr h3) (by omega)
    · cases hM : M.get i with
      | some o' =>
        have := st.sub i o' si hM hbi
        rw [hi] at this; cases this
        exact g.rel.apart i j oi oj si sj (by rw [st.part i hTi]; exact hM) hj c d hij hso e
      | none =>
        have hlt := hf.blk i si hbi
        obtain ⟨i0, o0, s0, h1, h2, h3⟩ := g.vis sj.blk (by omega) ⟨j, oj, sj, hj, d, rfl⟩
        exact far i oi si hTi hi hbi (fun o' h => by rw [hM] at h; cases h) i0 o0 s0 h1 h2 (.inl hso) (by omega)
    · exact hf.apart i j oi oj si sj hi hj hbi hbj hij hso e

/-- what holds of the whole way so far -/
structure FarF (β0 : Ren) (H0 : AHeap) (w0 : World) (β : Ren) (h : Nat → Option AObj) (w : World) : Prop where
  le : β0.le β
  os : w.os = w0.os
  tape : w.tape = w0.tape
  output : w.output = w0.output
  size : w0.heap.size ≤ w.heap.size
  keep : ∀ b, b < w0.heap.size → ¬ OwnB β0 H0 b → w.heap[b]? = w0.heap[b]?
  own : ∀ b, b < w0.heap.size → OwnF β h b → OwnB β0 H0 b
  vis : ∀ b, b < w0.heap.size → VisF β h b → VisB β0 H0 b
theorem FarF.after {β0 : Ren} {H0 : AHeap} {w0 : World} {β β' : Ren} {h h' : Nat → Option AObj} {M M' : AHeap} {fid : Nat} {T : Nat → Prop} {w w' : World} (hf : FarF β0 H0 w0 β h w) (st : StepF β h M β' h' M' fid T) (g : Goes β M w β' M' w') : FarF β0 H0 w0 β' h' w' := by
  have hown : ∀ b, OwnB β M b → OwnF β h b := fun b ⟨i, o, s, h1, h2, h3, h4⟩ => ⟨i, o, s, st.sub i o s h1 h2, h2, h3, h4⟩
  have hvis : ∀ b, VisB β M b → VisF β h b := fun b ⟨i, o, s, h1, h2, h4⟩ => ⟨i, o, s, st.sub i o s h1 h2, h2, h4⟩
  refine ⟨Ren.le_trans hf.le g.le, g.os.trans hf.os, g.tape.trans hf.tape, g.output.trans hf.output, Nat.le_trans hf.size g.size, fun b hb hn => ?_, ?_, ?_⟩
  · exact (g.keep b (Nat.lt_of_lt_of_le hb hf.size) fun ho => hn (hf.own b hb (hown b ho))).trans (hf.keep b hb hn)
  · rintro b hb ⟨i, o, s, h1, h2, h3, h4⟩
    by_cases hT : T i
    · exact hf.own b hb (hown b (g.own b (Nat.lt_of_lt_of_le hb hf.size) ⟨i, o, s, by rw [← st.on i hT]; exact h1, h2, h3, h4⟩))
    · exact hf.own b hb ⟨i, o, s, by rw [← st.off i hT]; exact h1, st.back g hT h2, h3, h4⟩
  · rintro b hb ⟨i, o, s, h1, h2, h4⟩
    by_cases hT : T i
    · exact hf.vis b hb (hvis b (g.vis b (Nat.lt_of_lt_of_le hb hf.size) ⟨i, o, s, by rw [← st.on i hT]; exact h1, h2, h4⟩))
    · exact hf.vis b hb ⟨i, o, s, by rw [← st.off i hT]; exact h1, st.back g hT h2, h4⟩

/-! ### the edges -/
theorem inner_bit (acc : Array Nat) (i : Nat) : ∀ (es : List Edge) (s : Nat), (es.foldl (fun s e => if Region.binds .any e then s ||| 2 ^ e.on ||| acc.getD e.on 0 else s) s).testBit i = true → s.testBit i = true ∨ ∃ e ∈ es, Region.binds .any e = true ∧ (e.on = i ∨ (acc.getD e.on 0).testBit i = true)
  | [], s, h => .inl h
  | e :: es, s, h => by
    rw [List.foldl_cons] at h
    rcases inner_bit acc i es _ h with h1 | ⟨e', h1, h2⟩
    · by_cases hb : Region.binds .any e = true
      · rw [if_pos hb] at h1
        simp only [Nat.testBit_or, Bool.or_eq_true] at h1
        rcases h1 with (h1 | h1) | h1
        · exact .inl h1
        · rw [Nat.testBit_two_pow] at h1
          exact .inr ⟨e, by simp, hb, .inl (by simpa using h1)⟩
        · exact .inr ⟨e, by simp, hb, .inr h1⟩
      · rw [if_neg hb] at h1; exact .inl h1
    · exact .inr ⟨e', by simp [h1], h2⟩
theorem before_fold (ops : List Oper) (i : Nat) : ∀ (os : List Oper) (acc : Array Nat), acc.size ≤ ops.length → os = ops.drop acc.size → (∀ k o, k < acc.size → ops[k]? = some o → (acc.getD k 0).testBit i = true → ∃ e ∈ o.after.toList, Region.binds .any e = true ∧ (e.on = i ∨ e.on < k ∧ (acc.getD e.on 0).testBit i = true)) →
    ∀ k o, ops[k]? = some o → ((os.foldl (fun acc o => acc.push (o.after.foldl (fun s e => if Region.binds .any e then s ||| 2 ^ e.on ||| acc.getD e.on 0 else s) 0)) acc).getD k 0).testBit i = true →
      ∃ e ∈ o.after.toList, Region.binds .any e = true ∧ (e.on = i ∨ e.on < k ∧ ((os.foldl (fun acc o => acc.push (o.after.foldl (fun s e => if Region.binds .any e then s ||| 2 ^ e.on ||| acc.getD e.on 0 else s) 0)) acc).getD e.on 0).testBit i = true)
  | [], acc, hsz, hos, hacc, k, o, ho, h => by
    simp only [List.foldl_nil] at h ⊢
    have hk : k < acc.size := by
      have h1 : ops.length ≤ acc.size := by have := congrArg List.length hos; simp at this; omega
      have := (List.getElem?_eq_some_iff.1 ho).1; omega
    exact hacc k o hk ho h
  | x :: os, acc, hsz, hos, hacc, k, o, ho, h => by
    simp only [List.foldl_cons] at h ⊢
    have hlt : acc.size < ops.length := by
      have := congrArg List.length hos; simp at this; omega
    have hx : ops[acc.size]? = some x := by
      have : (ops.drop acc.size)[0]? = some x := by rw [← hos]; rfl
      simpa using this
    refine before_fold ops i os _ (by simp; omega) ?_ ?_ k o ho h
    · have := congrArg List.tail hos
      simpa using this
    · intro k o hk ho hb
      simp only [Array.size_push] at hk
      by_cases e : k = acc.size
      · subst e
        rw [hx] at ho; cases ho
        rw [show (acc.push (x.after.foldl (fun s e => if Region.binds .any e then s ||| 2 ^ e.on ||| acc.getD e.on 0 else s) 0)).getD acc.size 0 = x.after.toList.foldl (fun s e => if Region.binds .any e then s ||| 2 ^ e.on ||| acc.getD e.on 0 else s) 0 from by simp [Array.getD_eq_getD_getElem?]] at hb
        rcases inner_bit acc i x.after.toList 0 hb with h0 | ⟨e, h1, h2, h3⟩
        · simp at h0
        · refine ⟨e, h1, h2, h3.imp id fun h4 => ?_⟩
          have hlt2 : e.on < acc.size := by
            rcases Nat.lt_or_ge e.on acc.size with h5 | h5
            · exact h5
            · rw [Array.getD_eq_getD_getElem?, Array.getElem?_eq_none h5] at h4; simp at h4
          refine ⟨hlt2, ?_⟩
          rw [Array.getD_eq_getD_getElem?, Array.getElem?_push_lt hlt2]
          rw [Array.getD_eq_getD_getElem?, Array.getElem?_eq_getElem hlt2] at h4
          exact h4
      · have hk' : k < acc.size := by omega
        rw [Array.getD_eq_getD_getElem?, Array.getElem?_push_lt hk'] at hb
        obtain ⟨e, h1, h2, h3⟩ := hacc k o hk' ho (by rw [Array.getD_eq_getD_getElem?, Array.getElem?_eq_getElem hk']; exact hb)
        refine ⟨e, h1, h2, h3.imp id fun h4 => ⟨h4.1, ?_⟩⟩
        have hlt2 : e.on < acc.size := by omega
        rw [Array.getD_eq_getD_getElem?, Array.getElem?_push_lt hlt2]
        have h5 := h4.2
        rw [Array.getD_eq_getD_getElem?, Array.getElem?_eq_getElem hlt2] at h5
        exact h5
def bfAt (ops : Array Oper) (k : Nat) : Nat := ((Region.before ops).toList[k]?).getD 0
theorem bf_spec (ops : Array Oper) {k i : Nat} {o : Oper} (ho : ops[k]? = some o) (h : (bfAt ops k).testBit i = true) : ∃ e ∈ o.after, Region.binds .any e = true ∧ (e.on = i ∨ (bfAt ops e.on).testBit i = true) := by
  have key := before_fold ops.toList i ops.toList #[] (by simp) (by simp) (fun k o hk => by simp at hk) k o (by simpa using ho)
  have hb : Region.before ops = ops.toList.foldl (fun acc o => acc.push (o.after.foldl (fun s e => if Region.binds .any e then s ||| 2 ^ e.on ||| acc.getD e.on 0 else s) 0)) #[] := by
    unfold Region.before; rw [Array.foldl_toList]
  rw [← hb] at key
  have e1 : ∀ k, (Region.before ops).getD k 0 = bfAt ops k := fun k => by unfold bfAt; rw [Array.getD_eq_getD_getElem?, Array.getElem?_toList]
  rw [e1] at key
  obtain ⟨e, h1, h2, h3⟩ := key h
  exact ⟨e, Array.mem_toList_iff.1 h1, h2, h3.imp id fun h4 => by rw [e1] at h4; exact h4.2⟩
end Go.Proofs.Ytmflapajjghpmaa
