/- Code whose answers hang on what is drawn: what holds of all of them. The machine's runs are such; a range over a map is put beside them. No program in sight. -/
import Derived.Test.YthnlkahgmbadoaaAmC
import Derived.LoopN
import Derived.Maps.RangeRun
set_option linter.unusedSimpArgs false
set_option linter.unusedVariables false
namespace Go.Proofs.Ythnlkahgmbadoaa
open Go.RowKit

/-- whatever is drawn: the code ends so -/
def Holds (P : Program) (nt : Nat) (c : Code) (env : Tr Value) (H : AHeap) (Q : St → Prop) : Prop :=
  WF H → ∀ (β : Ren) (a : Act) (w : World), Rel β H w → EnvRel β env a nt → ∀ K : Exit → Act → World → Prop,
    (∀ way env' H' β' a' w', Q (way, env', H') → WF H' → LogLe H.next H H' → Goes β H w β' H' w' → EnvRel β' env' a' nt → K (exitOf way) a' w') → c.wp P K a w

section
variable {P : Program} {nt : Nat} {env : Tr Value} {H : AHeap} {Q : St → Prop}
theorem holds_got {call : CallFn} {fuel : Nat} {c : Code} (hc : CallSound P [] call) (hm : P.follows .mixedOrders = true) (hk : chk [] nt c = true) (h : Got (rCode P call fuel c env H) Q) : Holds P nt c env H Q := by
  intro hwf β a w hr he K hK
  obtain ⟨⟨way, env', H'⟩, h1, h2⟩ := h
  rw [← rCode_eq (nt := nt) (gs := []) c env H hk] at h1
  obtain ⟨h3, h4⟩ := aCode_sound hc hm nt fuel c env H way env' H' h1 hwf
  exact h4 β a w hr (fun g hg => by cases hg) he K fun β' a' w' q1 _ q3 => hK _ _ _ _ _ _ h2 (h3.wf hwf) h3 q1 q3
theorem Holds.mono {c : Code} {Q' : St → Prop} (h : Holds P nt c env H Q) (k : ∀ s, Q s → Q' s) : Holds P nt c env H Q' :=
  fun hwf β a w hr he K hK => h hwf β a w hr he K fun way env' H' β' a' w' q0 q1 q2 q3 q4 => hK way env' H' β' a' w' (k _ q0) q1 q2 q3 q4
theorem holds_seq {x y : Code} {I : Tr Value → AHeap → Prop} (h1 : Holds P nt x env H (onTo Q I)) (h2 : ∀ e h, I e h → Holds P nt y e h Q) : Holds P nt (.seq x y) env H Q := by
  intro hwf β a w hr he K hK
  refine wp_seq (h1 hwf β a w hr he _ fun way env1 H1 β1 a1 w1 q0 q1 q2 q3 q4 => ?_)
  cases way with
  | on => exact h2 _ _ q0 q1 β1 a1 w1 q3.rel q4 K fun way env' H' β' a' w' r0 r1 r2 r3 r4 => hK _ _ _ _ _ _ r0 r1 (q2.trans (r2.mono q2.next)) (q3.trans r3) r4
  | out i => exact hK _ _ _ _ _ _ q0 q1 q2 q3 q4
  | back => exact hK _ _ _ _ _ _ q0 q1 q2 q3 q4
theorem holds_block {id : Nat} {x : Code} (h : Holds P nt x env H (outOf id Q)) : Holds P nt (.block id x) env H Q := by
  intro hwf β a w hr he K hK
  refine wp_block (h hwf β a w hr he _ fun way env1 H1 β1 a1 w1 q0 q1 q2 q3 q4 => ?_)
  cases way with
  | on => exact hK _ _ _ _ _ _ q0 q1 q2 q3 q4
  | back => exact hK _ _ _ _ _ _ q0 q1 q2 q3 q4
  | out i =>
    rw [zx] at q0
    cases hb : Nat.beq i id with
    | true =>
      have := Nat.eq_of_beq_eq_true hb
      subst this
      rw [hb] at q0
      simp only [exitOf, Exit.inBlock, if_true]
      exact hK _ _ _ _ _ _ q0 q1 q2 q3 q4
    | false =>
      have hne := Nat.ne_of_beq_eq_false hb
      rw [hb] at q0
      simp only [exitOf, Exit.inBlock, if_neg hne]
      exact hK (.out i) _ _ _ _ _ q0 q1 q2 q3 q4
theorem holds_cond {c : Operand} {x y : Code} {t : Bool} (hc : aEval env c = .bool t) (h : Holds P nt (if t then x else y) env H Q) : Holds P nt (.cond c x y) env H Q := by
  intro hwf β a w hr he K hK
  have hev : a.eval c = .bool t := by
    cases c with
    | tmp k =>
      have hv := he.val k
      simp only [aEval] at hc
      rw [hc] at hv
      show a.tmps.getD k undef = _
      generalize a.tmps.getD k undef = u at hv
      cases hv; rfl
    | const v => exact hc
    | global g => cases hc
    | func f => cases hc
  refine wp_cond hev ?_
  exact h hwf β a w hr he K hK
theorem holds_skip (h : Q (.on, env, H)) : Holds P nt .skip env H Q := fun hwf β a w hr he K hK => wp_skip (hK _ _ _ _ _ _ h hwf (.refl _ _) (.refl hr) he)
theorem holds_exit {id : Nat} (h : Q (.out id, env, H)) : Holds P nt (.exit id) env H Q := fun hwf β a w hr he K hK => wp_exit (hK (.out id) _ _ _ _ _ h hwf (.refl _ _) (.refl hr) he)
theorem holds_ret (h : Q (.back, env, H)) : Holds P nt .ret env H Q := fun hwf β a w hr he K hK => wp_ret (hK .back _ _ _ _ _ h hwf (.refl _ _) (.refl hr) he)
end
/-- a loop, by an invariant over a number that falls -/
theorem holds_rounds {P : Program} {nt : Nat} {c : Code} {Q : St → Prop} (I : Nat → Tr Value → AHeap → Prop) (step : ∀ n env H, I n env H → Holds P nt c env H (onTo Q fun e h => ∃ m, m < n ∧ I m e h)) :
    ∀ (f n : Nat) (env : Tr Value) (H : AHeap), I n env H → n < f → WF H → ∀ (β : Ren) (a : Act) (w : World), Rel β H w → EnvRel β env a nt → ∀ K : Exit → Act → World → Prop,
      (∀ way env' H' β' a' w', Q (way, env', H') → WF H' → LogLe H.next H H' → Goes β H w β' H' w' → EnvRel β' env' a' nt → K (exitOf way) a' w') → Code.rounds P c K f a w
  | 0, n, env, H, hI, hf => by omega
  | f + 1, n, env, H, hI, hf => by
    intro hwf β a w hr he K hK
    rw [rounds_succ]
    refine step n env H hI hwf β a w hr he _ fun way env1 H1 β1 a1 w1 q0 q1 q2 q3 q4 => ?_
    cases way with
    | on =>
      obtain ⟨m, hm, hi⟩ := q0
      exact holds_rounds I step f m env1 H1 hi (by omega) q1 β1 a1 w1 q3.rel q4 K fun way env' H' β' a' w' r0 r1 r2 r3 r4 => hK _ _ _ _ _ _ r0 r1 (q2.trans (r2.mono q2.next)) (q3.trans r3) r4
    | out i => exact hK (.out i) _ _ _ _ _ q0 q1 q2 q3 q4
    | back => exact hK .back _ _ _ _ _ q0 q1 q2 q3 q4
theorem holds_loop {P : Program} {nt : Nat} {c : Code} {Q : St → Prop} (I : Nat → Tr Value → AHeap → Prop) (step : ∀ n env H, I n env H → Holds P nt c env H (onTo Q fun e h => ∃ m, m < n ∧ I m e h)) {n : Nat} {env : Tr Value} {H : AHeap} (hI : I n env H) : Holds P nt (.loop c) env H Q :=
  fun hwf β a w hr he K hK => wp_loop_rounds (n + 1) (holds_rounds I step (n + 1) n env H hI (by omega) hwf β a w hr he K hK)
end Go.Proofs.Ythnlkahgmbadoaa

set_option linter.unusedSimpArgs false
set_option linter.unusedVariables false
namespace Go.Proofs.Ythnlkahgmbadoaa
open Go.RowKit Go.ChangeMaps

theorem ops_one {P : Program} {ops : Array Oper} {k n : Nat} {o : Oper} {a : Act} {w w' : World} {v : Value} {K : Exit → Act → World → Prop} (ho : ops[k]? = some o) (hg : o.guard = none) (hx : (execOp a.eval o).run P w = .ok (.value v) w') (h : wpOps P ops K (List.range' (k + 1) n) (a.put o.dst v) w') : wpOps P ops K (List.range' k (n + 1)) a w := by
  have hw : ∀ r, Region.wanted o r = true := fun r => by simp [Region.wanted, hg]
  simp only [List.range'_succ, wpOps, ho, hw, if_true]
  refine .inl ?_
  unfold Oper.wp
  rw [hx, Oper.upon_value]
  exact h

/-- an iterator over a map, of which some entries have come -/
structure IterAt (β : Ren) (H : AHeap) (w : World) (j m : Nat) (es : List MapEntry) (ck : Nat) (seen : List Nat) : Prop where
  ex : ∃ sj sm, β j = some sj ∧ sj.shift = 0 ∧ β m = some sm ∧ w.heap[sj.blk]? = some (.mapIter (some sm.blk) ck seen.toArray ck) ∧ ¬ VisB β H sj.blk
  none : H.get j = none
  map : H.get m = some (.map es ck)
theorem IterAt.goes {β β' : Ren} {H H' : AHeap} {w w' : World} {j m : Nat} {es : List MapEntry} {ck : Nat} {seen : List Nat} (h : IterAt β H w j m es ck seen) (hr : Rel β H w) (G : Goes β H w β' H' w') (L : LogLe H.next H H') (hm : H'.get m = some (.map es ck)) : IterAt β' H' w' j m es ck seen := by
  obtain ⟨sj, sm, h1, h2, h3, h4, h5⟩ := h.ex
  have hlt := hr.blk _ _ h1
  have hj : j < H.next := by
    rcases Nat.lt_or_ge j H.next with h | h
    · exact h
    · rw [hr.fresh j h] at h1; cases h1
  refine ⟨⟨sj, sm, G.le _ _ h1, h2, G.le _ _ h3, ?_, fun hv => h5 (G.vis _ hlt hv)⟩, L.live j hj h.none, hm⟩
  rw [G.keep sj.blk hlt (fun ⟨i, o, s, a, b, _, e⟩ => h5 ⟨i, o, s, a, b, e⟩)]
  exact h4
/-- the range begins -/
theorem range_wp {P : Program} {nt : Nat} {T kt et : TypeId} (hT : P.underlying T = some (.map kt et)) {id : Nat} {ts tr ti : Tmp} {ty0 ty1 : TypeId} {p0 p1 : String} {f0 f1 : Array Edge} (hd0 : dstOk nt (some tr) = true) (hd1 : dstOk nt (some ti) = true)
    {β : Ren} {H : AHeap} {w : World} {a : Act} {env : Tr Value} {m ck : Nat} {es : List MapEntry} (hwf : WF H) (hr : Rel β H w) (he : EnvRel β env a nt) (hs : env.get ts = some (.map (some m))) (hm : H.get m = some (.map es ck)) {K : Exit → Act → World → Prop}
    (hK : ∀ β' a' w', Goes β H w β' { H with next := H.next + 1 } w' → EnvRel β' (putE (putE env (some tr) (.map (some m))) (some ti) (.pointer (some ⟨H.next, 0, none⟩))) a' nt → IterAt β' { H with next := H.next + 1 } w' H.next m es ck [] → (∃ sj, β' H.next = some sj ∧ w.heap.size ≤ sj.blk) → K .normal a' w') :
    (Code.region id #[⟨some tr, .move (.tmp ts), ty0, p0, f0, none⟩, ⟨some ti, .range T (.tmp tr), ty1, p1, f1, none⟩] false).wp P K a w := by
  have hv := he.val ts
  rw [hs] at hv
  simp only [Option.getD_some] at hv
  have hev : a.eval (.tmp ts) = a.tmps.getD ts undef := rfl
  generalize hu : a.tmps.getD ts undef = u at hv hev
  cases hv with
  | @map _ sm hsm =>
    obtain ⟨_, hB, es', h1, h2, h3⟩ := hr.obj _ _ _ hm hsm
    have he1 := he.put (dst := some tr) (VR.map hsm) hd0
    have hev1 : (a.put (some tr) (.map (some sm.blk))).eval (.tmp tr) = .map (some sm.blk) := by
      have := he1.val tr
      rw [show (putE env (some tr) (.map (some m))).get tr = some (.map (some m)) from by rw [qC, qE]] at this
      simp only [Option.getD_some] at this
      show (a.put (some tr) (.map (some sm.blk))).tmps.getD tr undef = _
      generalize (a.put (some tr) (.map (some sm.blk))).tmps.getD tr undef = q at this
      cases this with
      | @map _ s hs2 => rw [hsm] at hs2; cases hs2; rfl
    apply wp_region
    rw [List.range_eq_range']
    refine ops_one (o := ⟨some tr, .move (.tmp ts), ty0, p0, f0, none⟩) rfl rfl (v := .map (some sm.blk)) (w' := w) (by simp [execOp, hev]) ?_
    refine ops_one (o := ⟨some ti, .range T (.tmp tr), ty1, p1, f1, none⟩) rfl rfl (v := .pointer (some ⟨w.heap.size, 0, none⟩)) (w' := w.alloc (.mapIter (some sm.blk) ck #[] ck)) (by
      simp only [execOp, hev1, Sem.run_bind, run_range_map w T kt et sm.blk es' ck hT h1, Result.andThen_ok, Sem.run_pure]) ?_
    have hnone : β H.next = none := hr.fresh _ (Nat.le_refl _)
    have hle := β.le_put H.next ⟨w.heap.size, 0, 0, 0, true⟩ hnone
    have hold : ∀ {i : Nat} {si : Spot}, β.put H.next ⟨w.heap.size, 0, 0, 0, true⟩ i = some si → (i = H.next ∧ si = ⟨w.heap.size, 0, 0, 0, true⟩) ∨ (i ≠ H.next ∧ β i = some si) := by
      intro i si hi
      by_cases e : i = H.next
      · subst e; rw [Ren.put_same] at hi; cases hi; exact .inl ⟨rfl, rfl⟩
      · rw [Ren.put_other β _ e] at hi; exact .inr ⟨e, hi⟩
    have hno : ∀ o, H.get H.next ≠ some o := fun o e => by rw [hwf _ (Nat.le_refl _)] at e; cases e
    have G : Goes β H w (β.put H.next ⟨w.heap.size, 0, 0, 0, true⟩) { H with next := H.next + 1 } (w.alloc (.mapIter (some sm.blk) ck #[] ck)) := by
      refine ⟨hle, ⟨fun i o s x y => ?_, fun i s x => ?_, fun i k oi ok si sk x y p q hik ho => ?_, fun i hi => ?_⟩, rfl, rfl, rfl, by simp, fun b hb _ => Below.heap_alloc _ _ _ hb, ?_, ?_⟩
      · rcases hold y with ⟨rfl, _⟩ | ⟨e, y⟩
        · exact absurd x (hno o)
        · exact (hr.obj i o s x y).mono hle (Below.heap_alloc _ _ _ (hr.blk i s y))
      · rcases hold x with ⟨rfl, rfl⟩ | ⟨e, x⟩
        · simp
        · have := hr.blk i s x; simp; omega
      · rcases hold p with ⟨rfl, _⟩ | ⟨e, p⟩
        · exact absurd x (hno oi)
        · rcases hold q with ⟨rfl, _⟩ | ⟨e2, q⟩
          · exact absurd y (hno ok)
          · exact hr.apart i k oi ok si sk x y p q hik ho
      · have hi : H.next + 1 ≤ i := hi
        rw [Ren.put_other β _ (by omega)]
        exact hr.fresh i (by omega)
      · rintro b hb ⟨i, o, s, x, y, p, q⟩
        rcases hold y with ⟨rfl, _⟩ | ⟨e, y⟩
        · exact absurd x (hno o)
        · exact ⟨i, o, s, x, y, p, q⟩
      · rintro b hb ⟨i, o, s, x, y, q⟩
        rcases hold y with ⟨rfl, _⟩ | ⟨e, y⟩
        · exact absurd x (hno o)
        · exact ⟨i, o, s, x, y, q⟩
    refine hK _ _ _ G ?_ ⟨⟨⟨w.heap.size, 0, 0, 0, true⟩, sm, Ren.put_same .., rfl, hle _ _ hsm, heap_alloc_new w _, ?_⟩, hwf _ (Nat.le_refl _), hm⟩ ⟨_, Ren.put_same .., Nat.le_refl _⟩
    · exact (he1.mono hle).put (dst := some ti) (VR.ptr (o := 0) (s := ⟨w.heap.size, 0, 0, 0, true⟩) (Ren.put_same ..)) hd1
    · rintro ⟨i, o, s, x, y, q⟩
      rcases hold y with ⟨rfl, _⟩ | ⟨e, y⟩
      · exact absurd x (hno o)
      · have := hr.blk i s y
        have q : s.blk = w.heap.size := q
        omega

/-- entries still to come -/
def leftE (es : List MapEntry) (seen : List Nat) : List MapEntry := es.filter fun e => !seen.contains e.born
theorem born_world {β : Ren} {es : List MapEntry} {es' : Array MapEntry} {ck : Nat} (hB : Born es ck) (hs : es'.size = es.length) (he : ∀ (j : Nat) (e e' : MapEntry), es[j]? = some e → es'[j]? = some e' → EntryRel β e e') :
    (∀ x ∈ es'.toList, x.born < ck) ∧ (es'.toList.map (·.born)).Nodup := by
  have hb : es'.toList.map (·.born) = es.map (·.born) := by
    apply List.ext_getElem (by simp [hs])
    intro j h1 h2
    simp only [List.length_map, Array.length_toList] at h1 h2
    have := (he j (es[j]'h2) (es'[j]'h1) (by simp) (by simp)).2.2.1
    simpa using this
  refine ⟨fun e' hm => ?_, by rw [hb]; exact hB.2⟩
  have h1 : e'.born ∈ es'.toList.map (·.born) := List.mem_map.2 ⟨e', hm, rfl⟩
  rw [hb] at h1
  obtain ⟨e, h2, h3⟩ := List.mem_map.1 h1
  rw [← h3]; exact hB.1 e h2
theorem entry_of {β : Ren} {es : List MapEntry} {es' : Array MapEntry} (hs : es'.size = es.length) (he : ∀ (j : Nat) (e e' : MapEntry), es[j]? = some e → es'[j]? = some e' → EntryRel β e e') {e' : MapEntry} (hm : e' ∈ es'.toList) : ∃ e, e ∈ es ∧ EntryRel β e e' := by
  obtain ⟨j, hj, rfl⟩ := List.mem_iff_getElem.1 hm
  simp only [Array.length_toList] at hj
  exact ⟨es[j]'(by omega), List.getElem_mem _, he j _ _ (by simp) (by simp)⟩
theorem entry_to {β : Ren} {es : List MapEntry} {es' : Array MapEntry} (hs : es'.size = es.length) (he : ∀ (j : Nat) (e e' : MapEntry), es[j]? = some e → es'[j]? = some e' → EntryRel β e e') {e : MapEntry} (hm : e ∈ es) : ∃ e', e' ∈ es'.toList ∧ EntryRel β e e' := by
  obtain ⟨j, hj, rfl⟩ := List.mem_iff_getElem.1 hm
  have hj2 : j < es'.toList.length := by simpa [hs] using hj
  exact ⟨es'.toList[j], List.getElem_mem _, he j _ _ (by simp) (by simp)⟩
theorem eval_ptr {β : Ren} {env : Tr Value} {a : Act} {nt j : Nat} {t : Tmp} {s : Spot} (he : EnvRel β env a nt) (h : env.get t = some (.pointer (some ⟨j, 0, none⟩))) (hs : β j = some s) (hz : s.shift = 0) : a.eval (.tmp t) = .pointer (some ⟨s.blk, 0, none⟩) := by
  have hv := he.val t
  rw [h] at hv
  simp only [Option.getD_some] at hv
  show a.tmps.getD t undef = _
  generalize a.tmps.getD t undef = u at hv
  cases hv with
  | @ptr _ _ s2 h2 => rw [hs] at h2; cases h2; rw [hz]
/-- only the iterator's own block turns, which is newer than all that is looked at -/
theorem goes_iter {βs β : Ren} {Hs H : AHeap} {ws w w1 : World} (G : Goes βs Hs ws β H w) (h1 : w1 = w ∨ w1 = w.drew) {r : Nat} (hlo : ws.heap.size ≤ r) (hv : ¬ VisB β H r) (o : Obj) : Goes βs Hs ws β H (setBlock w1 r o) := by
  have hk : ∀ b, b ≠ r → (setBlock w1 r o).heap[b]? = w.heap[b]? := fun b hb => by
    have e : (setBlock w1 r o).heap = w.heap.setIfInBounds r o := by rcases h1 with rfl | rfl <;> rfl
    rw [e]; simp [Array.getElem?_setIfInBounds, Ne.symm hb]
  have hsz : (setBlock w1 r o).heap.size = w.heap.size := by rcases h1 with rfl | rfl <;> simp [setBlock]
  refine ⟨G.le, ⟨fun i o s x y => (G.rel.obj i o s x y).mono β.le_refl (hk _ fun e => hv ⟨i, o, s, x, y, e⟩), fun i s x => by rw [hsz]; exact G.rel.blk i s x, G.rel.apart, G.rel.fresh⟩, ?_, ?_, ?_, by have := G.size; omega, fun b hb hn => (hk b (by omega)).trans (G.keep b hb hn), G.own, G.vis⟩
  · rcases h1 with rfl | rfl <;> exact G.os
  · rcases h1 with rfl | rfl <;> exact G.tape
  · rcases h1 with rfl | rfl <;> exact G.output
theorem put_eval {β : Ren} {env : Tr Value} {a : Act} {nt : Nat} (he : EnvRel β env a nt) {t : Tmp} (hd : dstOk nt (some t) = true) (v : Value) : (a.put (some t) v).eval (.tmp t) = v := by
  have hlt : t < a.tmps.size := by
    have := he.size
    have hd' : t < nt := by simpa [dstOk, Nat.blt_eq] using hd
    exact this ▸ hd'
  show (a.tmps.setIfInBounds t v).getD t undef = v
  simp [Array.getD, hlt]
theorem mem_left {es' : Array MapEntry} {seen : List Nat} {e' : MapEntry} : e' ∈ (leftOf es' seen.toArray).toList ↔ e' ∈ es'.toList ∧ seen.contains e'.born = false := by
  simp [leftOf, Array.toList_filter]
/-- a step of the iterator: nothing is left, or some entry comes -/
theorem next_wp {P : Program} {nt : Nat} {id : Nat} {ti tn tb : Tmp} {ty0 ty1 : TypeId} {p0 p1 : String} {f0 f1 : Array Edge} (hd0 : dstOk nt (some tn) = true) (hd1 : dstOk nt (some tb) = true)
    {βs β : Ren} {Hs H : AHeap} {ws w : World} {a : Act} {env : Tr Value} {j m ck : Nat} {es : List MapEntry} {seen : List Nat} (G : Goes βs Hs ws β H w) (he : EnvRel β env a nt) (ht : env.get ti = some (.pointer (some ⟨j, 0, none⟩))) (hi : IterAt β H w j m es ck seen) (hlo : ∀ s, β j = some s → ws.heap.size ≤ s.blk) {K : Exit → Act → World → Prop}
    (hdone : leftE es seen = [] → ∀ a', EnvRel β (putE (putE env (some tn) (.tuple #[.bool false])) (some tb) (.bool false)) a' nt → K .normal a' w)
    (hmore : ∀ e, e ∈ leftE es seen → ∀ a' w', Goes βs Hs ws β H w' → IterAt β H w' j m es ck (seen ++ [e.born]) → EnvRel β (putE (putE env (some tn) (.tuple #[.bool true, e.key, e.val])) (some tb) (.bool true)) a' nt → K .normal a' w') :
    (Code.region id #[⟨some tn, .next (.tmp ti) false, ty0, p0, f0, none⟩, ⟨some tb, .extract (.tmp tn) 0, ty1, p1, f1, none⟩] false).wp P K a w := by
  obtain ⟨sj, sm, h1, h2, h3, h4, h5⟩ := hi.ex
  obtain ⟨_, hB, es', g1, g2, g3⟩ := G.rel.obj _ _ _ hi.map h3
  obtain ⟨b1, b2⟩ := born_world hB g2 g3
  have hev := eval_ptr he ht h1 h2
  apply wp_region
  rw [List.range_eq_range']
  rcases run_next_at (P := P) w ty0 sj.blk sm.blk ck ck seen.toArray es' ck h4 g1 b1 (Nat.le_refl _) with ⟨h0, hrun⟩ | ⟨e', hem, w1, hal, hrun⟩
  · refine ops_one (o := ⟨some tn, .next (.tmp ti) false, ty0, p0, f0, none⟩) rfl rfl (v := .tuple #[.bool false]) (w' := w) (by simp only [execOp, hev, Sem.run_bind, hrun, Result.andThen_ok, Sem.run_pure]) ?_
    have he1 := he.put (dst := some tn) (v := .tuple #[.bool false]) (v' := .tuple #[.bool false]) (flat_vr (v := .tuple #[.bool false]) rfl β).1 hd0
    have hev1 : (a.put (some tn) (.tuple #[.bool false])).eval (.tmp tn) = .tuple #[.bool false] := by
      have := he1.val tn
      rw [show (putE env (some tn) (.tuple #[.bool false])).get tn = some (.tuple #[.bool false]) from by rw [qC, qE]] at this
      exact (flat_vr (v := .tuple #[.bool false]) rfl β).2 _ this
    refine ops_one (o := ⟨some tb, .extract (.tmp tn) 0, ty1, p1, f1, none⟩) rfl rfl (v := .bool false) (w' := w) (by simp [execOp, hev1, Instr.extract]) ?_
    refine hdone ?_ _ (he1.put (dst := some tb) (.bool false) hd1)
    cases hl : leftE es seen with
    | nil => rfl
    | cons e l =>
      have hm : e ∈ leftE es seen := by rw [hl]; exact List.mem_cons_self ..
      obtain ⟨he1, he2⟩ := List.mem_filter.1 hm
      obtain ⟨e', h6, h7⟩ := entry_to g2 g3 he1
      have h8 : e' ∈ (leftOf es' seen.toArray).toList := mem_left.2 ⟨h6, by rw [h7.2.2.1]; simpa using he2⟩
      rw [Array.eq_empty_of_size_eq_zero h0] at h8
      cases h8
  · obtain ⟨k1, k2⟩ := mem_left.1 hem
    obtain ⟨e, k3, k4⟩ := entry_of g2 g3 k1
    obtain ⟨q1, q2, q3, q4⟩ := k4
    have hvr : VR β (.tuple #[.bool true, e.key, e.val]) (.tuple #[.bool true, e'.key, e'.val]) := by
      refine .tuple rfl fun i x y hx hy => ?_
      match i, hx, hy with
      | 0, hx, hy => simp at hx hy; subst hx hy; exact .bool true
      | 1, hx, hy => simp at hx hy; subst hx hy; rw [q2]; exact (flat2_vr q1 β).1
      | 2, hx, hy => simp at hx hy; subst hx hy; exact q4
      | i + 3, hx, _ => simp at hx
    refine ops_one (o := ⟨some tn, .next (.tmp ti) false, ty0, p0, f0, none⟩) rfl rfl (v := .tuple #[.bool true, e'.key, e'.val]) (w' := setBlock w1 sj.blk (.mapIter (some sm.blk) ck (seen.toArray.push e'.born) ck)) (by simp only [execOp, hev, Sem.run_bind, hrun, Result.andThen_ok, Sem.run_pure]) ?_
    have he1 := he.put (dst := some tn) hvr hd0
    have hev1 := put_eval he hd0 (.tuple #[.bool true, e'.key, e'.val])
    refine ops_one (o := ⟨some tb, .extract (.tmp tn) 0, ty1, p1, f1, none⟩) rfl rfl (v := .bool true) (w' := setBlock w1 sj.blk (.mapIter (some sm.blk) ck (seen.toArray.push e'.born) ck)) (by simp [execOp, hev1, Instr.extract]) ?_
    have hG := goes_iter G hal (hlo _ h1) h5 (.mapIter (some sm.blk) ck (seen.toArray.push e'.born) ck)
    refine hmore e (List.mem_filter.2 ⟨k3, by rw [← q3]; simpa using k2⟩) _ _ hG ⟨⟨sj, sm, h1, h2, h3, ?_, h5⟩, hi.none, hi.map⟩ (he1.put (dst := some tb) (.bool true) hd1)
    have hlt : sj.blk < w.heap.size := G.rel.blk _ _ h1
    rw [q3]
    have e9 : ∀ o, (setBlock w1 sj.blk o).heap = w.heap.setIfInBounds sj.blk o := fun o => by rcases hal with rfl | rfl <;> rfl
    rw [e9]; simp [Array.getElem?_setIfInBounds, hlt]
end Go.Proofs.Ythnlkahgmbadoaa

set_option linter.unusedSimpArgs false
set_option linter.unusedVariables false
namespace Go.Proofs.Ythnlkahgmbadoaa
open Go.RowKit Go.ChangeMaps

theorem entry_wp {P : Program} {nt : Nat} {call : CallFn} (hc : CallSound P [] call) {id : Nat} {ti te : Tmp} {ty : TypeId} {p : String} {f : Array Edge} {ops : List Oper} (hd : dstOk nt (some te) = true) (hk : chkOps [] nt ops = true)
    {β : Ren} {H : AHeap} {w : World} {a : Act} {env : Tr Value} {j m ck : Nat} {es : List MapEntry} {seen : List Nat} {e : MapEntry} (hwf : WF H) (hr : Rel β H w) (he : EnvRel β env a nt) (ht : env.get ti = some (.pointer (some ⟨j, 0, none⟩))) (hi : IterAt β H w j m es ck (seen ++ [e.born])) (hm : e ∈ es) {Q : Tr Value → AHeap → Prop} {K : Exit → Act → World → Prop}
    (h : Got (rOps P call (⟨some te, .entry (.tmp ti), ty, p, f, none⟩ :: ops) H.next ops 1 (putE env (some te) (.tuple #[e.key, e.val])) { H with next := H.next + (ops.length + 1) }) fun r => Q r.1 r.2)
    (hK : ∀ env' H' β' a' w', Q env' H' → WF H' → LogLe H.next H H' → Goes β H w β' H' w' → EnvRel β' env' a' nt → K .normal a' w') :
    (Code.region id (⟨some te, .entry (.tmp ti), ty, p, f, none⟩ :: ops).toArray false).wp P K a w := by
  obtain ⟨sj, sm, h1, h2, h3, h4, h5⟩ := hi.ex
  obtain ⟨_, hB, es', g1, g2, g3⟩ := hr.obj _ _ _ hi.map h3
  obtain ⟨b1, b2⟩ := born_world hB g2 g3
  have hev := eval_ptr he ht h1 h2
  obtain ⟨e', k1, q1, q2, q3, q4⟩ := entry_to g2 g3 hm
  have hrun := run_entry_at (P := P) w sj.blk sm.blk ck seen.toArray es' ck e' (by rw [h4, q3]; simp) g1 k1 b2
  obtain ⟨⟨env1, H1⟩, hops, hQ⟩ := h
  rw [← rOps_eq (gs := []) (nt := nt) ops 1 _ _ hk] at hops
  obtain ⟨l1, l2⟩ := aOps_sound hc (⟨some te, .entry (.tmp ti), ty, p, f, none⟩ :: ops).toArray nt H.next ops 1 _ _ env1 H1 (by simp) hops (by simp) ((widen_log H _).wf hwf)
  have hvr : VR β (.tuple #[e.key, e.val]) (.tuple #[e'.key, e'.val]) := by
    refine .tuple rfl fun i x y hx hy => ?_
    match i, hx, hy with
    | 0, hx, hy => simp at hx hy; subst hx hy; rw [q2]; exact (flat2_vr q1 β).1
    | 1, hx, hy => simp at hx hy; subst hx hy; exact q4
    | i + 2, hx, _ => simp at hx
  apply wp_region
  rw [List.range_eq_range']
  have hlen : (⟨some te, .entry (.tmp ti), ty, p, f, none⟩ :: ops).toArray.size = ops.length + 1 := by simp
  rw [hlen]
  refine ops_one (o := ⟨some te, .entry (.tmp ti), ty, p, f, none⟩) rfl rfl (v := .tuple #[e'.key, e'.val]) (w' := w) (by simp only [execOp, hev, Sem.run_bind, hrun, Result.andThen_ok, Sem.run_pure]) ?_
  have hL := (widen_log H (ops.length + 1)).trans l1
  exact l2 β _ w (widen_rel hr _) (fun g hg => by cases hg) (he.put (dst := some te) hvr hd) (fun i _ _ => hr.fresh _ (Nat.le_add_right _ _)) K fun β' a' w' r1 r2 r3 => hK _ _ _ _ _ hQ (hL.wf hwf) hL (widen_goes r1) r3
theorem eval_bool {β : Ren} {env : Tr Value} {a : Act} {nt : Nat} (he : EnvRel β env a nt) (t : Tmp) (v : Bool) (h : env.get t = some (.bool v)) : a.eval (.tmp t) = .bool v := by
  have hv := he.val t
  rw [h] at hv
  simp only [Option.getD_some] at hv
  show a.tmps.getD t undef = _
  generalize a.tmps.getD t undef = u at hv
  cases hv; rfl
theorem left_less {es : List MapEntry} {seen : List Nat} {x : MapEntry} (h : x ∈ leftE es seen) : (leftE es (seen ++ [x.born])).length < (leftE es seen).length := by
  have e1 : leftE es (seen ++ [x.born]) = (leftE es seen).filter fun e => !(e.born == x.born) := by
    unfold leftE
    rw [List.filter_filter]
    congr 1
    funext e
    have e2 : (seen ++ [x.born]).contains e.born = (seen.contains e.born || e.born == x.born) := by
      rw [List.contains_append]; simp only [List.contains_cons, List.contains_nil, Bool.or_false]
    rw [e2, Bool.not_or, Bool.and_comm]
  rw [e1]
  refine Nat.lt_of_le_of_ne (List.length_filter_le _ _) fun e => ?_
  have := List.length_filter_eq_length_iff.1 e x h
  simp at this

set_option maxHeartbeats 1000000 in
/-- a range over a map that the rounds leave as it is: whatever order is drawn -/
theorem holds_range {P : Program} {nt : Nat} {call : CallFn} {fuel : Nat} {T kt et : TypeId} (hT : P.underlying T = some (.map kt et)) (hc : CallSound P [] call) (hmx : P.follows .mixedOrders = true) {id1 id2 id3 b4 b5 : Nat} {ts tr ti tn tb te : Tmp}
    {ty0 ty1 ty2 ty3 ty4 : TypeId} {p0 p1 p2 p3 p4 : String} {f0 f1 f2 f3 f4 : Array Edge} {ops : List Oper} {B : Code} (hd : (dstOk nt (some tr) && (dstOk nt (some ti) && (dstOk nt (some tn) && (dstOk nt (some tb) && dstOk nt (some te))))) = true) (hn1 : ti ≠ tn) (hn2 : ti ≠ tb) (hko : chkOps [] nt ops = true) (hkB : chk [] nt B = true)
    {env : Tr Value} {H : AHeap} {m ck : Nat} {es : List MapEntry} (hs : env.get ts = some (.map (some m))) (hmm : H.get m = some (.map es ck)) {Q : St → Prop} (I : List Nat → Tr Value → AHeap → Prop)
    (h0 : I [] (putE (putE env (some tr) (.map (some m))) (some ti) (.pointer (some ⟨H.next, 0, none⟩))) { H with next := H.next + 1 })
    (hI : ∀ seen e h, I seen e h → e.get ti = some (.pointer (some ⟨H.next, 0, none⟩)) ∧ h.get m = some (.map es ck))
    (hend : ∀ seen e h, I seen e h → leftE es seen = [] → Q (.on, putE (putE e (some tn) (.tuple #[.bool false])) (some tb) (.bool false), h))
    (hstep : ∀ seen e h x, I seen e h → x ∈ leftE es seen → Got (rOps P call (⟨some te, .entry (.tmp ti), ty4, p4, f4, none⟩ :: ops) h.next ops 1 (putE (putE (putE e (some tn) (.tuple #[.bool true, x.key, x.val])) (some tb) (.bool true)) (some te) (.tuple #[x.key, x.val])) { h with next := h.next + (ops.length + 1) }) fun r =>
      Got (rCode P call fuel B r.1 r.2) (outOf b5 fun s => ∃ e' h', s = (.on, e', h') ∧ I (seen ++ [x.born]) e' h')) :
    Holds P nt (.seq (.region id1 #[⟨some tr, .move (.tmp ts), ty0, p0, f0, none⟩, ⟨some ti, .range T (.tmp tr), ty1, p1, f1, none⟩] false)
      (.block b4 (.loop (.seq (.region id2 #[⟨some tn, .next (.tmp ti) false, ty2, p2, f2, none⟩, ⟨some tb, .extract (.tmp tn) 0, ty3, p3, f3, none⟩] false) (.seq (.cond (.tmp tb) .skip (.exit b4))
        (.block b5 (.seq (.region id3 (⟨some te, .entry (.tmp ti), ty4, p4, f4, none⟩ :: ops).toArray false) B))))))) env H Q := by
  simp only [Bool.and_eq_true] at hd
  obtain ⟨hd1, hd2, hd3, hd4, hd5⟩ := hd
  intro hwf β a w hr he K hK
  refine wp_seq (range_wp hT hd1 hd2 hwf hr he hs hmm fun β1 a1 w1 G1 E1 IT1 hlo1 => ?_)
  show (Code.block b4 _).wp P K a1 w1
  refine wp_block (wp_loop_rounds ((leftE es []).length + 1) ?_)
  have key : ∀ (q : Nat) (seen : List Nat) (e : Tr Value) (h : AHeap) (β2 : Ren) (a2 : Act) (w2 : World), (leftE es seen).length < q → I seen e h → WF h → LogLe H.next H h → Goes β H w β2 h w2 → EnvRel β2 e a2 nt → IterAt β2 h w2 H.next m es ck seen → (∃ sj, β2 H.next = some sj ∧ w.heap.size ≤ sj.blk) →
      Code.rounds P (.seq (.region id2 #[⟨some tn, .next (.tmp ti) false, ty2, p2, f2, none⟩, ⟨some tb, .extract (.tmp tn) 0, ty3, p3, f3, none⟩] false) (.seq (.cond (.tmp tb) .skip (.exit b4))
        (.block b5 (.seq (.region id3 (⟨some te, .entry (.tmp ti), ty4, p4, f4, none⟩ :: ops).toArray false) B)))) (Exit.inBlock b4 K) q a2 w2 := by
    intro q
    induction q with
    | zero => intro seen e h β2 a2 w2 hq; exact absurd hq (Nat.not_lt_zero _)
    | succ q ih =>
      intro seen e h β2 a2 w2 hq hi hwf2 hL hG hE hIT hlo
      obtain ⟨hti, hmp⟩ := hI seen e h hi
      obtain ⟨sj, hsj, hsl⟩ := hlo
      rw [rounds_succ]
      refine wp_seq (next_wp hd3 hd4 hG hE hti hIT (fun s hs => by rw [hsj] at hs; cases hs; exact hsl) (fun hl a3 E3 => ?_) (fun x hx a3 w3 G3 IT3 E3 => ?_))
      · refine wp_seq (wp_cond_false (eval_bool E3 tb false (by rw [qC, qE])) (wp_exit ?_))
        show Exit.inBlock b4 K (.exit b4) a3 w2
        simp only [Exit.inBlock, if_true]
        exact hK .on _ _ _ _ _ (hend seen e h hi hl) hwf2 hL hG E3
      · refine wp_seq (wp_cond_true (eval_bool E3 tb true (by rw [qC, qE])) (wp_skip ?_))
        have hti2 : (putE (putE e (some tn) (.tuple #[.bool true, x.key, x.val])) (some tb) (.bool true)).get ti = some (.pointer (some ⟨H.next, 0, none⟩)) := by
          rw [qC, qC, qF _ _ _ _ hn2, qF _ _ _ _ hn1]; exact hti
        refine wp_block (wp_seq (entry_wp (Q := fun e4 h4 => Got (rCode P call fuel B e4 h4) (outOf b5 fun s => ∃ e' h', s = (.on, e', h') ∧ I (seen ++ [x.born]) e' h')) hc hd5 hko hwf2 G3.rel E3 hti2 IT3 (List.mem_filter.1 hx).1 (hstep seen e h x hi hx) (fun env4 H4 β4 a4 w4 q0 q1 q2 q3 q4 => ?_)))
        refine holds_got hc hmx hkB q0 q1 β4 a4 w4 q3.rel q4 _ (fun way e5 H5 β5 a5 w5 r0 r1 r2 r3 r4 => ?_)
        have hLL := q2.trans (r2.mono q2.next)
        have next : I (seen ++ [x.born]) e5 H5 → Code.rounds P (.seq (.region id2 #[⟨some tn, .next (.tmp ti) false, ty2, p2, f2, none⟩, ⟨some tb, .extract (.tmp tn) 0, ty3, p3, f3, none⟩] false) (.seq (.cond (.tmp tb) .skip (.exit b4))
            (.block b5 (.seq (.region id3 (⟨some te, .entry (.tmp ti), ty4, p4, f4, none⟩ :: ops).toArray false) B)))) (Exit.inBlock b4 K) q a5 w5 := fun hi5 =>
          ih (seen ++ [x.born]) e5 H5 β5 a5 w5 (by have := left_less hx; omega) hi5 r1 (hL.trans (hLL.mono hL.next)) (G3.trans (q3.trans r3)) r4 (IT3.goes G3.rel (q3.trans r3) hLL (hI _ _ _ hi5).2) ⟨sj, (q3.trans r3).le _ _ hsj, hsl⟩
        cases way with
        | on =>
          obtain ⟨e6, h6, heq, hi5⟩ := r0
          cases heq
          exact next hi5
        | back =>
          obtain ⟨e6, h6, heq, hi5⟩ := r0
          cases heq
        | out i =>
          rw [zx] at r0
          cases hb : Nat.beq i b5 with
          | true =>
            have := Nat.eq_of_beq_eq_true hb
            subst this
            rw [hb] at r0
            obtain ⟨e6, h6, heq, hi5⟩ := r0
            cases heq
            simp only [exitOf, Exit.inBlock, if_true]
            exact next hi5
          | false =>
            rw [hb] at r0
            obtain ⟨e6, h6, heq, hi5⟩ := r0
            cases heq
  exact key _ [] _ _ β1 a1 w1 (Nat.lt_succ_self _) h0 (fun i hi => hwf i (by have hi : H.next + 1 ≤ i := hi; omega)) (widen_log H 1) G1 E1 IT1 hlo1
end Go.Proofs.Ythnlkahgmbadoaa

set_option linter.unusedSimpArgs false
set_option linter.unusedVariables false
namespace Go.Proofs.Ythnlkahgmbadoaa
open Go.RowKit

/-- the code's end: the results are true -/
def tellsTrue (P : Program) (rs : List ResultVar) (s : St) : Prop := (s.1 = .on ∨ s.1 = .back) ∧ aResults P s.2.1 s.2.2 rs = some [.bool true]
theorem calls_holds {P : Program} {f : FuncId} {fn : Func} {c : Code} (hfn : P.funcs[f]? = some fn) (hbody : fn.body = some c) {args args' : List Value} {H : AHeap} (hb : Nat.ble args.length fn.ntmps = true) (h : Holds P fn.ntmps c (qG args 0 .nil) (unlog H) (tellsTrue P fn.results.toList))
    (hwf : WF H) {β : Ren} {w : World} (hr : Rel β H w) (hargs : ListVR β args args') : Calls P f args'.toArray w fun e w' => e = .returned (.bool true) ∧ ∃ β' H', Goes β H w β' H' w' := by
  rw [Nat.ble_eq] at hb
  refine calls_of_wp hfn hbody ?_
  refine h (show WF (unlog H) from hwf) β _ w (show Rel β (unlog H) w from ⟨hr.obj, hr.blk, hr.apart, hr.fresh⟩) (args_rel hargs hb) _ fun way env1 H1 β' a' w' q0 _ _ q1 q3 => ?_
  obtain ⟨hway, hres⟩ := q0
  obtain ⟨vs', r1, r2⟩ := results_run q1.rel q3 (fun
    | .tmp t => pure (a'.tmps.getD t undef)
    | .cell a t => do loadVar t (← asAddr (a'.tmps.getD a undef))) (fun _ => rfl) (fun _ _ => rfl) fn.results.toList [.bool true] hres
  have hrun : (results fn a'.tmps).run P w' = .ok (if h : vs'.toArray.size = 1 then vs'.toArray[0] else .tuple vs'.toArray) w' := by
    unfold results
    rw [Array.mapM_eq_mapM_toList]
    simp only [Sem.run_bind, Sem.run_map]
    refine Eq.trans (congrArg (fun r => (Result.andThen (Result.andThen r fun a w => .ok (List.toArray a) w) fun a w' => (pure (if h : a.size = 1 then a[0] else Value.tuple a) : Sem Value).run P w')) r2) rfl
  have hv := oneOf_vr r1
  have hdone : bodyPost P fn (fun e w' => e = .returned (.bool true) ∧ ∃ β' H', Goes β H w β' H' w') .normal a' w' := ⟨q3.defers, _, hrun, by
    rw [ja] at hv
    generalize (if h : vs'.toArray.size = 1 then vs'.toArray[0] else Value.tuple vs'.toArray) = u at hv
    cases hv
    rfl, β', H1, ⟨q1.le, q1.rel, q1.os, q1.tape, q1.output, q1.size, q1.keep, q1.own, q1.vis⟩⟩
  rcases hway with h1 | h1
  · have h1 : way = .on := h1
    subst h1; exact hdone
  · have h1 : way = .back := h1
    subst h1; exact hdone
theorem lenV_mapS {P : Program} {t kt el : TypeId} {ty c : _} (hu : P.underlying t = some (.map kt el)) {H : AHeap} {i ck : Nat} {es : List MapEntry} (hg : H.get i = some (.map es ck)) : lenV P t ty c (.map (some i)) H = some (.int .i64 (.ofNat es.length)) := by
  simp only [lenV, aLen, hu, entriesOf, hg, Option.map_some]; rfl
theorem holds_step {P : Program} {nt : Nat} {call : CallFn} {fuel : Nat} {x y : Code} {env : Tr Value} {H : AHeap} {Q : St → Prop} (hc : CallSound P [] call) (hm : P.follows .mixedOrders = true) (hk : chk [] nt x = true) (h : Got (rCode P call fuel x env H) (onTo Q fun e h => Holds P nt y e h Q)) : Holds P nt (.seq x y) env H Q :=
  holds_seq (holds_got hc hm hk h) fun e h hh => hh
theorem tells_end {P : Program} {rs : List ResultVar} {e : Tr Value} {H : AHeap} (h : aResults P e H rs = some [.bool true]) : tellsTrue P rs (.back, e, H) := ⟨.inr rfl, h⟩
/-- a value that leads to a map leads to one of the model's -/
theorem map_born {β : Ren} {H : AHeap} {w : World} {a : Act} {env : Tr Value} {nt ts m ck : Nat} {es : List MapEntry} (hr : Rel β H w) (he : EnvRel β env a nt) (hs : env.get ts = some (.map (some m))) (hm : H.get m = some (.map es ck)) : Born es ck := by
  have hv := he.val ts
  rw [hs] at hv
  simp only [Option.getD_some] at hv
  generalize a.tmps.getD ts undef = u at hv
  cases hv with
  | @map _ sm hsm =>
    obtain ⟨_, hB, _⟩ := hr.obj _ _ _ hm hsm
    exact hB
theorem holds_born {P : Program} {nt : Nat} {c : Code} {env : Tr Value} {H : AHeap} {Q : St → Prop} {ts m ck : Nat} {es : List MapEntry} (hs : env.get ts = some (.map (some m))) (hm : H.get m = some (.map es ck)) (h : Born es ck → Holds P nt c env H Q) : Holds P nt c env H Q :=
  fun hwf β a w hr he K hK => h (map_born hr he hs hm) hwf β a w hr he K hK
/-- what is left, one by one -/
theorem left_perm {es : List MapEntry} (hn : (es.map (·.born)).Nodup) {seen : List Nat} {x : MapEntry} (hx : x ∈ leftE es seen) : (leftE es seen).Perm (x :: leftE es (seen ++ [x.born])) := by
  have e1 : leftE es (seen ++ [x.born]) = (leftE es seen).filter fun e => !(e.born == x.born) := by
    unfold leftE
    rw [List.filter_filter]
    congr 1
    funext e
    have e2 : (seen ++ [x.born]).contains e.born = (seen.contains e.born || e.born == x.born) := by
      rw [List.contains_append]; simp only [List.contains_cons, List.contains_nil, Bool.or_false]
    rw [e2, Bool.not_or, Bool.and_comm]
  rw [e1]
  have hn2 : ((leftE es seen).map (·.born)).Nodup := hn.sublist ((List.filter_sublist).map _)
  generalize leftE es seen = l at hx hn2
  induction l with
  | nil => cases hx
  | cons y l ih =>
    simp only [List.map_cons, List.nodup_cons] at hn2
    by_cases e : y.born = x.born
    · have hxy : x = y := by
        rcases List.mem_cons.1 hx with h | h
        · exact h
        · exact absurd (List.mem_map.2 ⟨x, h, e.symm⟩) hn2.1
      subst hxy
      rw [List.filter_cons_of_neg (by simp)]
      refine List.Perm.cons _ ?_
      rw [List.filter_eq_self.2]
      intro z hz
      have : z.born ≠ x.born := fun h => hn2.1 (List.mem_map.2 ⟨z, hz, h⟩)
      simp [this]
    · rw [List.filter_cons_of_pos (by simp [e])]
      rcases List.mem_cons.1 hx with h | h
      · exact absurd (by rw [h]) e
      · exact ((ih h hn2.2).cons _).trans (List.Perm.swap _ _ _)
end Go.Proofs.Ythnlkahgmbadoaa
