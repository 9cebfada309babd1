/- A range over a map, whatever order is drawn. No program in sight. -/
import Derived.Test.YthnlkahgmbadoaaNdKit
import Derived.Maps.RangeRun
set_option linter.unusedSimpArgs false
set_option linter.unusedVariables false
namespace Go.Proofs.Ythnlkahgmbadoaa
open Go.RowKit Go.ChangeMaps

theorem ops_one {P : Program} {ops : Array Oper} {k n : Nat} {o : Oper} {a : Act} {w w' : World} {v : Value} {K : Exit → Act → World → Prop} (ho : ops[k]? = some o) (hg : o.guard = none) (hx : (execOp a.eval o).run P w = .ok (.value v) w') (h : wpOps P ops K (List.range' (k + 1) n) (a.put o.dst v) w') : wpOps P ops K (List.range' k (n + 1)) a w := by
  have hw : ∀ r, Region.wanted o r = true := fun r => by simp [Region.wanted, hg]
  simp only [List.range'_succ, wpOps, ho, hw, if_true]
  refine .inl ?_
  unfold Oper.wp
  rw [hx, Oper.upon_value]
  exact h

/-- an iterator over a map, of which some entries have come -/
structure IterAt (β : Ren) (H : AHeap) (w : World) (j m : Nat) (es : List MapEntry) (ck : Nat) (seen : List Nat) : Prop where
  ex : ∃ sj sm, β j = some sj ∧ sj.shift = 0 ∧ β m = some sm ∧ w.heap[sj.blk]? = some (.mapIter (some sm.blk) ck seen.toArray ck) ∧ ¬ VisB β H sj.blk
  none : H.get j = none
  map : H.get m = some (.map es ck)
theorem IterAt.goes {β β' : Ren} {H H' : AHeap} {w w' : World} {j m : Nat} {es : List MapEntry} {ck : Nat} {seen : List Nat} (h : IterAt β H w j m es ck seen) (hr : Rel β H w) (G : Goes β H w β' H' w') (L : LogLe H.next H H') (hm : H'.get m = some (.map es ck)) : IterAt β' H' w' j m es ck seen := by
  obtain ⟨sj, sm, h1, h2, h3, h4, h5⟩ := h.ex
  have hlt := hr.blk _ _ h1
  have hj : j < H.next := by
    rcases Nat.lt_or_ge j H.next with h | h
    · exact h
    · rw [hr.fresh j h] at h1; cases h1
  refine ⟨⟨sj, sm, G.le _ _ h1, h2, G.le _ _ h3, ?_, fun hv => h5 (G.vis _ hlt hv)⟩, L.live j hj h.none, hm⟩
  rw [G.keep sj.blk hlt (fun ⟨i, o, s, a, b, _, e⟩ => h5 ⟨i, o, s, a, b, e⟩)]
  exact h4
/-- the range begins -/
theorem range_wp {P : Program} {nt : Nat} {T kt et : TypeId} (hT : P.underlying T = some (.map kt et)) {id : Nat} {ts tr ti : Tmp} {ty0 ty1 : TypeId} {p0 p1 : String} {f0 f1 : Array Edge} (hd0 : dstOk nt (some tr) = true) (hd1 : dstOk nt (some ti) = true)
    {β : Ren} {H : AHeap} {w : World} {a : Act} {env : Tr Value} {m ck : Nat} {es : List MapEntry} (hwf : WF H) (hr : Rel β H w) (he : EnvRel β env a nt) (hs : env.get ts = some (.map (some m))) (hm : H.get m = some (.map es ck)) {K : Exit → Act → World → Prop}
    (hK : ∀ β' a' w', Goes β H w β' { H with next := H.next + 1 } w' → EnvRel β' (putE (putE env (some tr) (.map (some m))) (some ti) (.pointer (some ⟨H.next, 0, none⟩))) a' nt → IterAt β' { H with next := H.next + 1 } w' H.next m es ck [] → (∃ sj, β' H.next = some sj ∧ w.heap.size ≤ sj.blk) → K .normal a' w') :
    (Code.region id #[⟨some tr, .move (.tmp ts), ty0, p0, f0, none⟩, ⟨some ti, .range T (.tmp tr), ty1, p1, f1, none⟩] false).wp P K a w := by
  have hv := he.val ts
  rw [hs] at hv
  simp only [Option.getD_some] at hv
  have hev : a.eval (.tmp ts) = a.tmps.getD ts undef := rfl
  generalize hu : a.tmps.getD ts undef = u at hv hev
  cases hv with
  | @map _ sm hsm =>
    obtain ⟨_, hB, es', h1, h2, h3⟩ := hr.obj _ _ _ hm hsm
    have he1 := he.put (dst := some tr) (VR.map hsm) hd0
    have hev1 : (a.put (some tr) (.map (some sm.blk))).eval (.tmp tr) = .map (some sm.blk) := by
      have := he1.val tr
      rw [show (putE env (some tr) (.map (some m))).get tr = some (.map (some m)) from by rw [qC, qE]] at this
      simp only [Option.getD_some] at this
      show (a.put (some tr) (.map (some sm.blk))).tmps.getD tr undef = _
      generalize (a.put (some tr) (.map (some sm.blk))).tmps.getD tr undef = q at this
      cases this with
      | @map _ s hs2 => rw [hsm] at hs2; cases hs2; rfl
    apply wp_region
    rw [List.range_eq_range']
    refine ops_one (o := ⟨some tr, .move (.tmp ts), ty0, p0, f0, none⟩) rfl rfl (v := .map (some sm.blk)) (w' := w) (by simp [execOp, hev]) ?_
    refine ops_one (o := ⟨some ti, .range T (.tmp tr), ty1, p1, f1, none⟩) rfl rfl (v := .pointer (some ⟨w.heap.size, 0, none⟩)) (w' := w.alloc (.mapIter (some sm.blk) ck #[] ck)) (by
      simp only [execOp, hev1, Sem.run_bind, run_range_map w T kt et sm.blk es' ck hT h1, Result.andThen_ok, Sem.run_pure]) ?_
    have hnone : β H.next = none := hr.fresh _ (Nat.le_refl _)
    have hle := β.le_put H.next ⟨w.heap.size, 0, 0, 0, true⟩ hnone
    have hold : ∀ {i : Nat} {si : Spot}, β.put H.next ⟨w.heap.size, 0, 0, 0, true⟩ i = some si → (i = H.next ∧ si = ⟨w.heap.size, 0, 0, 0, true⟩) ∨ (i ≠ H.next ∧ β i = some si) := by
      intro i si hi
      by_cases e : i = H.next
      · subst e; rw [Ren.put_same] at hi; cases hi; exact .inl ⟨rfl, rfl⟩
      · rw [Ren.put_other β _ e] at hi; exact .inr ⟨e, hi⟩
    have hno : ∀ o, H.get H.next ≠ some o := fun o e => by rw [hwf _ (Nat.le_refl _)] at e; cases e
    have G : Goes β H w (β.put H.next ⟨w.heap.size, 0, 0, 0, true⟩) { H with next := H.next + 1 } (w.alloc (.mapIter (some sm.blk) ck #[] ck)) := by
      refine ⟨hle, ⟨fun i o s x y => ?_, fun i s x => ?_, fun i k oi ok si sk x y p q hik ho => ?_, fun i hi => ?_⟩, rfl, rfl, rfl, by simp, fun b hb _ => Below.heap_alloc _ _ _ hb, ?_, ?_⟩
      · rcases hold y with ⟨rfl, _⟩ | ⟨e, y⟩
        · exact absurd x (hno o)
        · exact (hr.obj i o s x y).mono hle (Below.heap_alloc _ _ _ (hr.blk i s y))
      · rcases hold x with ⟨rfl, rfl⟩ | ⟨e, x⟩
        · simp
        · have := hr.blk i s x; simp; omega
      · rcases hold p with ⟨rfl, _⟩ | ⟨e, p⟩
        · exact absurd x (hno oi)
        · rcases hold q with ⟨rfl, _⟩ | ⟨e2, q⟩
          · exact absurd y (hno ok)
          · exact hr.apart i k oi ok si sk x y p q hik ho
      · have hi : H.next + 1 ≤ i := hi
        rw [Ren.put_other β _ (by omega)]
        exact hr.fresh i (by omega)
      · rintro b hb ⟨i, o, s, x, y, p, q⟩
        rcases hold y with ⟨rfl, _⟩ | ⟨e, y⟩
        · exact absurd x (hno o)
        · exact ⟨i, o, s, x, y, p, q⟩
      · rintro b hb ⟨i, o, s, x, y, q⟩
        rcases hold y with ⟨rfl, _⟩ | ⟨e, y⟩
        · exact absurd x (hno o)
        · exact ⟨i, o, s, x, y, q⟩
    refine hK _ _ _ G ?_ ⟨⟨⟨w.heap.size, 0, 0, 0, true⟩, sm, Ren.put_same .., rfl, hle _ _ hsm, heap_alloc_new w _, ?_⟩, hwf _ (Nat.le_refl _), hm⟩ ⟨_, Ren.put_same .., Nat.le_refl _⟩
    · exact (he1.mono hle).put (dst := some ti) (VR.ptr (o := 0) (s := ⟨w.heap.size, 0, 0, 0, true⟩) (Ren.put_same ..)) hd1
    · rintro ⟨i, o, s, x, y, q⟩
      rcases hold y with ⟨rfl, _⟩ | ⟨e, y⟩
      · exact absurd x (hno o)
      · have := hr.blk i s y
        have q : s.blk = w.heap.size := q
        omega

/-- entries still to come -/
def leftE (es : List MapEntry) (seen : List Nat) : List MapEntry := es.filter fun e => !seen.contains e.born
theorem born_world {β : Ren} {es : List MapEntry} {es' : Array MapEntry} {ck : Nat} (hB : Born es ck) (hs : es'.size = es.length) (he : ∀ (j : Nat) (e e' : MapEntry), es[j]? = some e → es'[j]? = some e' → EntryRel β e e') :
    (∀ x ∈ es'.toList, x.born < ck) ∧ (es'.toList.map (·.born)).Nodup := by
  have hb : es'.toList.map (·.born) = es.map (·.born) := by
    apply List.ext_getElem (by simp [hs])
    intro j h1 h2
    simp only [List.length_map, Array.length_toList] at h1 h2
    have := (he j (es[j]'h2) (es'[j]'h1) (by simp) (by simp)).2.2.1
    simpa using this
  refine ⟨fun e' hm => ?_, by rw [hb]; exact hB.2⟩
  have h1 : e'.born ∈ es'.toList.map (·.born) := List.mem_map.2 ⟨e', hm, rfl⟩
  rw [hb] at h1
  obtain ⟨e, h2, h3⟩ := List.mem_map.1 h1
  rw [← h3]; exact hB.1 e h2
theorem entry_of {β : Ren} {es : List MapEntry} {es' : Array MapEntry} (hs : es'.size = es.length) (he : ∀ (j : Nat) (e e' : MapEntry), es[j]? = some e → es'[j]? = some e' → EntryRel β e e') {e' : MapEntry} (hm : e' ∈ es'.toList) : ∃ e, e ∈ es ∧ EntryRel β e e' := by
  obtain ⟨j, hj, rfl⟩ := List.mem_iff_getElem.1 hm
  simp only [Array.length_toList] at hj
  exact ⟨es[j]'(by omega), List.getElem_mem _, he j _ _ (by simp) (by simp)⟩
theorem entry_to {β : Ren} {es : List MapEntry} {es' : Array MapEntry} (hs : es'.size = es.length) (he : ∀ (j : Nat) (e e' : MapEntry), es[j]? = some e → es'[j]? = some e' → EntryRel β e e') {e : MapEntry} (hm : e ∈ es) : ∃ e', e' ∈ es'.toList ∧ EntryRel β e e' := by
  obtain ⟨j, hj, rfl⟩ := List.mem_iff_getElem.1 hm
  have hj2 : j < es'.toList.length := by simpa [hs] using hj
  exact ⟨es'.toList[j], List.getElem_mem _, he j _ _ (by simp) (by simp)⟩
theorem eval_ptr {β : Ren} {env : Tr Value} {a : Act} {nt j : Nat} {t : Tmp} {s : Spot} (he : EnvRel β env a nt) (h : env.get t = some (.pointer (some ⟨j, 0, none⟩))) (hs : β j = some s) (hz : s.shift = 0) : a.eval (.tmp t) = .pointer (some ⟨s.blk, 0, none⟩) := by
  have hv := he.val t
  rw [h] at hv
  simp only [Option.getD_some] at hv
  show a.tmps.getD t undef = _
  generalize a.tmps.getD t undef = u at hv
  cases hv with
  | @ptr _ _ s2 h2 => rw [hs] at h2; cases h2; rw [hz]
/-- only the iterator's own block turns, which is newer than all that is looked at -/
theorem goes_iter {βs β : Ren} {Hs H : AHeap} {ws w w1 : World} (G : Goes βs Hs ws β H w) (h1 : w1 = w ∨ w1 = w.drew) {r : Nat} (hlo : ws.heap.size ≤ r) (hv : ¬ VisB β H r) (o : Obj) : Goes βs Hs ws β H (setBlock w1 r o) := by
  have hk : ∀ b, b ≠ r → (setBlock w1 r o).heap[b]? = w.heap[b]? := fun b hb => by
    have e : (setBlock w1 r o).heap = w.heap.setIfInBounds r o := by rcases h1 with rfl | rfl <;> rfl
    rw [e]; simp [Array.getElem?_setIfInBounds, Ne.symm hb]
  have hsz : (setBlock w1 r o).heap.size = w.heap.size := by rcases h1 with rfl | rfl <;> simp [setBlock]
  refine ⟨G.le, ⟨fun i o s x y => (G.rel.obj i o s x y).mono β.le_refl (hk _ fun e => hv ⟨i, o, s, x, y, e⟩), fun i s x => by rw [hsz]; exact G.rel.blk i s x, G.rel.apart, G.rel.fresh⟩, ?_, ?_, ?_, by have := G.size; omega, fun b hb hn => (hk b (by omega)).trans (G.keep b hb hn), G.own, G.vis⟩
  · rcases h1 with rfl | rfl <;> exact G.os
  · rcases h1 with rfl | rfl <;> exact G.tape
  · rcases h1 with rfl | rfl <;> exact G.output
theorem put_eval {β : Ren} {env : Tr Value} {a : Act} {nt : Nat} (he : EnvRel β env a nt) {t : Tmp} (hd : dstOk nt (some t) = true) (v : Value) : (a.put (some t) v).eval (.tmp t) = v := by
  have hlt : t < a.tmps.size := by
    have := he.size
    have hd' : t < nt := by simpa [dstOk, Nat.blt_eq] using hd
    exact this ▸ hd'
  show (a.tmps.setIfInBounds t v).getD t undef = v
  simp [Array.getD, hlt]
theorem mem_left {es' : Array MapEntry} {seen : List Nat} {e' : MapEntry} : e' ∈ (leftOf es' seen.toArray).toList ↔ e' ∈ es'.toList ∧ seen.contains e'.born = false := by
  simp [leftOf, Array.toList_filter]
/-- a step of the iterator: nothing is left, or some entry comes -/
theorem next_wp {P : Program} {nt : Nat} {id : Nat} {ti tn tb : Tmp} {ty0 ty1 : TypeId} {p0 p1 : String} {f0 f1 : Array Edge} (hd0 : dstOk nt (some tn) = true) (hd1 : dstOk nt (some tb) = true)
    {βs β : Ren} {Hs H : AHeap} {ws w : World} {a : Act} {env : Tr Value} {j m ck : Nat} {es : List MapEntry} {seen : List Nat} (G : Goes βs Hs ws β H w) (he : EnvRel β env a nt) (ht : env.get ti = some (.pointer (some ⟨j, 0, none⟩))) (hi : IterAt β H w j m es ck seen) (hlo : ∀ s, β j = some s → ws.heap.size ≤ s.blk) {K : Exit → Act → World → Prop}
    (hdone : leftE es seen = [] → ∀ a', EnvRel β (putE (putE env (some tn) (.tuple #[.bool false])) (some tb) (.bool false)) a' nt → K .normal a' w)
    (hmore : ∀ e, e ∈ leftE es seen → ∀ a' w', Goes βs Hs ws β H w' → IterAt β H w' j m es ck (seen ++ [e.born]) → EnvRel β (putE (putE env (some tn) (.tuple #[.bool true, e.key, e.val])) (some tb) (.bool true)) a' nt → K .normal a' w') :
    (Code.region id #[⟨some tn, .next (.tmp ti) false, ty0, p0, f0, none⟩, ⟨some tb, .extract (.tmp tn) 0, ty1, p1, f1, none⟩] false).wp P K a w := by
  obtain ⟨sj, sm, h1, h2, h3, h4, h5⟩ := hi.ex
  obtain ⟨_, hB, es', g1, g2, g3⟩ := G.rel.obj _ _ _ hi.map h3
  obtain ⟨b1, b2⟩ := born_world hB g2 g3
  have hev := eval_ptr he ht h1 h2
  apply wp_region
  rw [List.range_eq_range']
  rcases run_next_at (P := P) w ty0 sj.blk sm.blk ck ck seen.toArray es' ck h4 g1 b1 (Nat.le_refl _) with ⟨h0, hrun⟩ | ⟨e', hem, w1, hal, hrun⟩
  · refine ops_one (o := ⟨some tn, .next (.tmp ti) false, ty0, p0, f0, none⟩) rfl rfl (v := .tuple #[.bool false]) (w' := w) (by simp only [execOp, hev, Sem.run_bind, hrun, Result.andThen_ok, Sem.run_pure]) ?_
    have he1 := he.put (dst := some tn) (v := .tuple #[.bool false]) (v' := .tuple #[.bool false]) (flat_vr (v := .tuple #[.bool false]) rfl β).1 hd0
    have hev1 : (a.put (some tn) (.tuple #[.bool false])).eval (.tmp tn) = .tuple #[.bool false] := by
      have := he1.val tn
      rw [show (putE env (some tn) (.tuple #[.bool false])).get tn = some (.tuple #[.bool false]) from by rw [qC, qE]] at this
      exact (flat_vr (v := .tuple #[.bool false]) rfl β).2 _ this
    refine ops_one (o := ⟨some tb, .extract (.tmp tn) 0, ty1, p1, f1, none⟩) rfl rfl (v := .bool false) (w' := w) (by simp [execOp, hev1, Instr.extract]) ?_
    refine hdone ?_ _ (he1.put (dst := some tb) (.bool false) hd1)
    cases hl : leftE es seen with
    | nil => rfl
    | cons e l =>
      have hm : e ∈ leftE es seen := by rw [hl]; exact List.mem_cons_self ..
      obtain ⟨he1, he2⟩ := List.mem_filter.1 hm
      obtain ⟨e', h6, h7⟩ := entry_to g2 g3 he1
      have h8 : e' ∈ (leftOf es' seen.toArray).toList := mem_left.2 ⟨h6, by rw [h7.2.2.1]; simpa using he2⟩
      rw [Array.eq_empty_of_size_eq_zero h0] at h8
      cases h8
  · obtain ⟨k1, k2⟩ := mem_left.1 hem
    obtain ⟨e, k3, k4⟩ := entry_of g2 g3 k1
    obtain ⟨q1, q2, q3, q4⟩ := k4
    have hvr : VR β (.tuple #[.bool true, e.key, e.val]) (.tuple #[.bool true, e'.key, e'.val]) := by
      refine .tuple rfl fun i x y hx hy => ?_
      match i, hx, hy with
      | 0, hx, hy => simp at hx hy; subst hx hy; exact .bool true
      | 1, hx, hy => simp at hx hy; subst hx hy; rw [q2]; exact (flat2_vr q1 β).1
      | 2, hx, hy => simp at hx hy; subst hx hy; exact q4
      | i + 3, hx, _ => simp at hx
    refine ops_one (o := ⟨some tn, .next (.tmp ti) false, ty0, p0, f0, none⟩) rfl rfl (v := .tuple #[.bool true, e'.key, e'.val]) (w' := setBlock w1 sj.blk (.mapIter (some sm.blk) ck (seen.toArray.push e'.born) ck)) (by simp only [execOp, hev, Sem.run_bind, hrun, Result.andThen_ok, Sem.run_pure]) ?_
    have he1 := he.put (dst := some tn) hvr hd0
    have hev1 := put_eval he hd0 (.tuple #[.bool true, e'.key, e'.val])
    refine ops_one (o := ⟨some tb, .extract (.tmp tn) 0, ty1, p1, f1, none⟩) rfl rfl (v := .bool true) (w' := setBlock w1 sj.blk (.mapIter (some sm.blk) ck (seen.toArray.push e'.born) ck)) (by simp [execOp, hev1, Instr.extract]) ?_
    have hG := goes_iter G hal (hlo _ h1) h5 (.mapIter (some sm.blk) ck (seen.toArray.push e'.born) ck)
    refine hmore e (List.mem_filter.2 ⟨k3, by rw [← q3]; simpa using k2⟩) _ _ hG ⟨⟨sj, sm, h1, h2, h3, ?_, h5⟩, hi.none, hi.map⟩ (he1.put (dst := some tb) (.bool true) hd1)
    have hlt : sj.blk < w.heap.size := G.rel.blk _ _ h1
    rw [q3]
    have e9 : ∀ o, (setBlock w1 sj.blk o).heap = w.heap.setIfInBounds sj.blk o := fun o => by rcases hal with rfl | rfl <;> rfl
    rw [e9]; simp [Array.getElem?_setIfInBounds, hlt]
end Go.Proofs.Ythnlkahgmbadoaa
