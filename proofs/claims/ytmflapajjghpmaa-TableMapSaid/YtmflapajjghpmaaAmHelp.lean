/- Helps for the abstract machine: what they owe. No program in sight. -/
import Derived.Test.YtmflapajjghpmaaAmStr
namespace Go.Proofs.Ytmflapajjghpmaa
open Go.RowKit

theorem below_goes {β : Ren} {H : AHeap} {w w' : World} (hr : Rel β H w) (h2 : Below w.heap.size w w') : Goes β H w β H w' :=
  ⟨β.le_refl, ⟨fun i o s a b => (hr.obj i o s a b).mono β.le_refl (h2.block _ (hr.blk i s b)), fun i s b => Nat.lt_of_lt_of_le (hr.blk i s b) h2.size, hr.apart, hr.fresh⟩, h2.os, h2.tape, h2.output, h2.size, fun b hb _ => h2.block b hb, fun _ _ h => h, fun _ _ h => h⟩
theorem flat_args {β : Ren} {args args' : List Value} (ha : args.all flat = true) (h : ListVR β args args') : args' = args := by
  refine List.ext_getElem? fun j => ?_
  by_cases hj : j < args.length
  · have hj' : j < args'.length := by rw [← h.1]; exact hj
    rw [List.getElem?_eq_getElem hj, List.getElem?_eq_getElem hj']
    congr 1
    exact (flat_vr (List.all_eq_true.1 ha _ (List.getElem_mem hj)) β).2 _ (h.2 j _ _ (List.getElem?_eq_getElem hj) (List.getElem?_eq_getElem hj'))
  · have hl := h.1
    rw [List.getElem?_eq_none (by omega), List.getElem?_eq_none (by omega)]
abbrev Owed (P : Program) (gs : List Nat) (f : FuncId) (args : List Value) (H : AHeap) (v : Value) (H' : AHeap) : Prop := LogLe H.next H H' ∧
  (∀ (β : Ren) (w : World) (args' : List Value), Rel β H w → GlobOk gs β → ListVR β args args' → Calls P f args'.toArray w fun e w' => ∃ v' β', e = .returned v' ∧ VR β' v v' ∧ Goes β H w β' H' w' ∧ Ren.agree H.next β β')
/-- an answer without blocks; all stays -/
theorem quiet_owed {P : Program} {gs : List Nat} {f : FuncId} {args : List Value} {v : Value} {H : AHeap} (ha : args.all flat = true) (hv : flat v = true)
    (h : ∀ (β : Ren) (w : World), Rel β H w → GlobOk gs β → Calls P f args.toArray w fun e w' => e = .returned v ∧ Below w.heap.size w w') : Owed P gs f args H v H := by
  refine ⟨LogLe.refl _ _, fun β w args' hr hg hargs => ?_⟩
  rw [flat_args ha hargs]
  exact (h β w hr hg).mono fun e w' ⟨h1, h2⟩ => ⟨v, β, h1, (flat_vr hv β).1, below_goes hr h2, fun _ _ => rfl⟩
/-- an answer with one new block, of which nothing is known -/
theorem fresh_owed {P : Program} {gs : List Nat} {f : FuncId} {args : List Value} {k : IntKind} {a : Int} {t : TypeId} {H : AHeap} (ha : args.all flat = true) (hw : WF H)
    (h : ∀ (β : Ren) (w : World), Rel β H w → GlobOk gs β → Calls P f args.toArray w fun e w' => ∃ N, e = .returned (.tuple #[.int k a, .iface t (.pointer (some ⟨N, 0, none⟩))]) ∧ w.heap.size ≤ N ∧ N < w'.heap.size ∧ Below w.heap.size w w') :
    Owed P gs f args H (.tuple #[.int k a, .iface t (.pointer (some ⟨H.next, 0, none⟩))]) { H with next := H.next + 1 } := by
  refine ⟨⟨fun i _ _ => rfl, fun i h => h, Nat.le_succ _, fun i _ h => h, fun hw i hi => hw i (Nat.le_of_succ_le hi), fun i h => .inl h⟩, fun β w args' hr hg hargs => ?_⟩
  rw [flat_args ha hargs]
  refine (h β w hr hg).mono fun e w' ⟨N, h1, h3, h4, h2⟩ => ?_
  have g := below_goes hr h2
  have hn : β H.next = none := hr.fresh _ (Nat.le_refl _)
  refine ⟨_, β.put H.next ⟨N, 0, 0, 0, false⟩, h1, ?_, ?_, fun i hi => Ren.put_other _ _ (by omega)⟩
  · refine .tuple rfl fun j x y hx hy => ?_
    match j with
    | 0 => simp at hx hy; subst hx hy; exact .int _ _
    | 1 => simp at hx hy; subst hx hy; exact .iface (.ptr (Ren.put_same ..))
    | j + 2 => simp at hx
  · have hle : β.le (β.put H.next ⟨N, 0, 0, 0, false⟩) := β.le_put _ _ hn
    have hold : ∀ {i : Nat} {si : Spot}, (β.put H.next ⟨N, 0, 0, 0, false⟩) i = some si → (i = H.next ∧ si = ⟨N, 0, 0, 0, false⟩) ∨ (i ≠ H.next ∧ β i = some si) := by
      intro i si hi
      by_cases e : i = H.next
      · subst e; rw [Ren.put_same] at hi; cases hi; exact .inl ⟨rfl, rfl⟩
      · rw [Ren.put_other β _ e] at hi; exact .inr ⟨e, hi⟩
    have hne : ∀ i o, H.get i = some o → i ≠ H.next := fun i o hi e => by subst e; rw [hw _ (Nat.le_refl _)] at hi; cases hi
    refine ⟨hle, ⟨?_, ?_, ?_, ?_⟩, g.os, g.tape, g.output, g.size, g.keep, ?_, ?_⟩
    · intro i o s a b
      rcases hold b with ⟨rfl, _⟩ | ⟨_, b⟩
      · exact absurd rfl (hne _ o a)
      · exact (g.rel.obj i o s a b).mono hle rfl
    · intro i s b
      rcases hold b with ⟨_, rfl⟩ | ⟨_, b⟩
      · exact h4
      · exact g.rel.blk i s b
    · intro i j oi oj si sj a b c d hij hso
      rcases hold c with ⟨rfl, _⟩ | ⟨_, c⟩
      · exact absurd rfl (hne _ oi a)
      · rcases hold d with ⟨rfl, _⟩ | ⟨_, d⟩
        · exact absurd rfl (hne _ oj b)
        · exact g.rel.apart i j oi oj si sj a b c d hij hso
    · intro i hi
      have hi : H.next + 1 ≤ i := hi
      rw [Ren.put_other β _ (by omega)]
      exact hr.fresh i (by omega)
    · rintro b hb ⟨i, o, s, a, c, d, e⟩
      rcases hold c with ⟨rfl, _⟩ | ⟨_, c⟩
      · exact absurd rfl (hne _ o a)
      · exact ⟨i, o, s, a, c, d, e⟩
    · rintro b hb ⟨i, o, s, a, c, e⟩
      rcases hold c with ⟨rfl, _⟩ | ⟨_, c⟩
      · exact absurd rfl (hne _ o a)
      · exact ⟨i, o, s, a, c, e⟩
/-- two helps beside each other -/
def orHelp (O1 O2 : Helps) : Helps := fun f => match O1 f with
  | some g => some g
  | none => O2 f
theorem orHelp_sound {P : Program} {gs : List Nat} {O1 O2 : Helps} (h1 : CallSound P gs (helpFn O1)) (h2 : CallSound P gs (helpFn O2)) : CallSound P gs (helpFn (orHelp O1 O2)) := fun f args H v H' h hwf => by
  unfold helpFn orHelp at h
  cases hf : O1 f with
  | some g =>
    rw [hf] at h
    exact h1 f args H v H' (by unfold helpFn; rw [hf]; exact h) hwf
  | none =>
    rw [hf] at h
    exact h2 f args H v H' (by unfold helpFn; exact h) hwf
end Go.Proofs.Ytmflapajjghpmaa
