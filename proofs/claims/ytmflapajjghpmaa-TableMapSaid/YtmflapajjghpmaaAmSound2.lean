/- The abstract machine's frame and steps beside the model's. -/
import Derived.Test.YtmflapajjghpmaaAmSound1
namespace Go.Proofs.Ytmflapajjghpmaa
open Go.RowKit

structure EnvRel (β : Ren) (env : Tr Value) (a : Act) (nt : Nat) : Prop where
  size : a.tmps.size = nt
  defers : a.defers = []
  val : ∀ t, VR β ((env.get t).getD undef) (a.tmps.getD t undef)
def GlobOk (gs : List Nat) (β : Ren) : Prop := ∀ g ∈ gs, ∃ s, β g = some s ∧ s.blk = g ∧ s.shift = 0 ∧ s.tot = 20
theorem GlobOk.mono {gs : List Nat} {β β' : Ren} (h : GlobOk gs β) (hb : β.le β') : GlobOk gs β' := fun g hg => let ⟨s, a, b⟩ := h g hg; ⟨s, hb g s a, b⟩
theorem EnvRel.mono {β β' : Ren} {env : Tr Value} {a : Act} {nt : Nat} (h : EnvRel β env a nt) (hb : β.le β') : EnvRel β' env a nt := ⟨h.size, h.defers, fun t => (h.val t).mono hb⟩

theorem eval_at {gs : List Nat} {β : Ren} {env : Tr Value} {a : Act} {o : Oper} (he : ∀ t, Operand.tmp t ∈ o.op.operands → VR β ((env.get t).getD undef) (a.tmps.getD t undef)) (hg : GlobOk gs β) (hc : constsOk gs o = true) : ∀ x ∈ o.op.operands, VR β (aEval env x) (a.eval x) := by
  intro x hx
  have hx2 := List.all_eq_true.1 hc x (Array.mem_toList_iff.2 hx)
  cases x with
  | tmp t => exact he t hx
  | const v => exact (flat_vr hx2 β).1
  | global g =>
    obtain ⟨g', hg', e⟩ := List.any_eq_true.1 hx2
    have := Nat.eq_of_beq_eq_true e; subst this
    obtain ⟨s, h1, h2, h3, _⟩ := hg g hg'
    have h4 : VR β (.pointer (some ⟨g, 0, none⟩)) (.pointer (some ⟨s.blk, s.shift + 0, none⟩)) := .ptr h1
    rw [h2, h3] at h4
    exact h4
  | func f => exact .func rfl rfl (fun j x y hx => by simp at hx) (fun j x y hx => by simp at hx)

theorem eval_vr {gs : List Nat} {β : Ren} {env : Tr Value} {a : Act} {nt : Nat} {o : Oper} (he : EnvRel β env a nt) (hg : GlobOk gs β) (hc : constsOk gs o = true) : ∀ x ∈ o.op.operands, VR β (aEval env x) (a.eval x) := eval_at (fun t _ => he.val t) hg hc

theorem EnvRel.put {β : Ren} {env : Tr Value} {a : Act} {nt : Nat} (h : EnvRel β env a nt) {dst : Option Tmp} {v v' : Value} (hv : VR β v v') (hd : dstOk nt dst = true) : EnvRel β (putE env dst v) (a.put dst v') nt := by
  cases dst with
  | none => exact h
  | some d =>
    have hd' : d < nt := by simpa [dstOk, Nat.blt_eq] using hd
    refine ⟨by simp [Act.put, h.size], h.defers, fun t => ?_⟩
    simp only [putE, Act.put, Tr.get_put]
    by_cases e : t = d
    · subst e
      have hs : t < a.tmps.size := by rw [h.size]; exact hd'
      simp only [if_true, Option.getD_some, Array.getD_eq_getD_getElem?, Array.getElem?_setIfInBounds_self_of_lt hs]
      exact hv
    · rw [if_neg e]
      simp only [Array.getD_eq_getD_getElem?, Array.getElem?_setIfInBounds_ne (Ne.symm e)]
      have := h.val t
      simpa only [Array.getD_eq_getD_getElem?] using this

theorem wanted_at {β : Ren} {env : Tr Value} {a : Act} (ops : Array Oper) (o : Oper) (h : ∀ j want t, o.guard = some (j, want) → (ops[j]?).bind (·.dst) = some t → VR β ((env.get t).getD undef) (a.tmps.getD t undef)) : wantedA o ops.toList env = Region.wanted o (yielded ops a.tmps) := by
  unfold wantedA Region.wanted
  cases hgd : o.guard with
  | none => rfl
  | some g =>
    obtain ⟨j, want⟩ := g
    simp only [yielded, Array.getElem?_toList]
    cases hd : (ops[j]?).bind (·.dst) with
    | none => rfl
    | some t =>
      have hv := h j want t hgd hd
      simp only [Option.bind_some]
      cases ht : a.tmps[t]? with
      | none =>
        have e : a.tmps.getD t undef = undef := by rw [Array.getD_eq_getD_getElem?, ht]; rfl
        rw [e] at hv
        cases he : env.get t with
        | none => rfl
        | some u =>
          rw [he] at hv
          simp only [Option.getD_some] at hv
          unfold undef at hv
          cases hv; rfl
      | some u =>
        have e : a.tmps.getD t undef = u := by rw [Array.getD_eq_getD_getElem?, ht]; rfl
        rw [e] at hv
        cases he : env.get t with
        | none =>
          rw [he] at hv
          simp only [Option.getD_none] at hv
          unfold undef at hv
          cases hv; rfl
        | some u2 =>
          rw [he] at hv
          simp only [Option.getD_some] at hv
          cases hv <;> first | rfl | (rename_i b; cases b <;> cases want <;> rfl)

theorem wanted_same {β : Ren} {env : Tr Value} {a : Act} {nt : Nat} (h : EnvRel β env a nt) (ops : Array Oper) (o : Oper) : wantedA o ops.toList env = Region.wanted o (yielded ops a.tmps) := wanted_at ops o fun _ _ t _ _ => h.val t

def ListVR (β : Ren) (l l' : List Value) : Prop := l.length = l'.length ∧ ∀ (j : Nat) (x y : Value), l[j]? = some x → l'[j]? = some y → VR β x y
theorem ListVR.app {β : Ren} {a b a' b' : List Value} (h : ListVR β a a') (k : ListVR β b b') : ListVR β (a ++ b) (a' ++ b') := ⟨by simp [h.1, k.1], app_vr h.1 h.2 k.2⟩
theorem ListVR.ofArr {β : Ren} {a a' : Array Value} (hs : a.size = a'.size) (h : ∀ (j : Nat) (x y : Value), a[j]? = some x → a'[j]? = some y → VR β x y) : ListVR β a.toList a'.toList := ⟨by simpa using hs, fun j x y hx hy => h j x y (by simpa using hx) (by simpa using hy)⟩
theorem ListVR.map {β : Ren} {ρ ρ' : Operand → Value} (l : List Operand) (h : ∀ x ∈ l, VR β (ρ x) (ρ' x)) : ListVR β (l.map ρ) (l.map ρ') := by
  refine ⟨by simp, fun j x y hx hy => ?_⟩
  rw [List.getElem?_map] at hx hy
  obtain ⟨u, hu, rfl⟩ := Option.map_eq_some_iff.1 hx
  rw [hu] at hy; cases hy
  exact h u (List.mem_of_getElem? hu)

def CallSound (P : Program) (gs : List Nat) (call : CallFn) : Prop := ∀ f args H v H', call f args H = some (v, H') → WF H → LogLe H.next H H' ∧
  (∀ (β : Ren) (w : World) (args' : List Value), Rel β H w → GlobOk gs β → ListVR β args args' → Calls P f args'.toArray w fun e w' => ∃ v' β', e = .returned v' ∧ VR β' v v' ∧ Goes β H w β' H' w' ∧ Ren.agree H.next β β')

structure LogStep (fid : Nat) (H H' : AHeap) : Prop where
  same : ∀ i, i < H.next → i ≠ fid → i ∉ H'.log → H'.get i = H.get i
  log : ∀ i, i ∈ H.log → i ∈ H'.log
  next : H.next ≤ H'.next
  live : ∀ i, i < H.next → i ≠ fid → H.get i = none → H'.get i = none
  wf : fid < H.next → WF H → WF H'
  logged : ∀ i, i ∈ H'.log → i ∈ H.log ∨ H.get i ≠ none ∨ i = fid ∨ H.next ≤ i

theorem callee_some {P : Program} {ρ : Operand → Value} {f : Operand} {as : Array Operand} {ts : Array TypeId} {g : FuncId} {args : List Value} (h : calleeOf P ρ (.call { callee := .value f, args := as, argTypes := ts }) = some (g, args)) :
    ∃ first captured fn, ρ f = .func (.func g) first captured ∧ P.funcs[g]? = some fn ∧ fn.body.isSome = true ∧ (fn.name == "runtime.NumGoroutine") = false ∧ args = first.toList ++ as.toList.map ρ ++ captured.toList := by
  unfold calleeOf at h
  simp only at h
  split at h
  · rename_i g' first captured hf
    split at h
    · rename_i fn hfn
      cases hc : (fn.body.isSome && fn.name != "runtime.NumGoroutine") with
      | false => rw [hc] at h; cases h
      | true =>
        rw [hc] at h
        simp only [cond, Option.some.injEq, Prod.mk.injEq] at h
        obtain ⟨rfl, rfl⟩ := h
        rw [Bool.and_eq_true] at hc
        exact ⟨first, captured, fn, hf, hfn, hc.1, by simpa [bne] using hc.2, rfl⟩
    · cases h
  · cases h

theorem step_log {P : Program} {gs : List Nat} {call : CallFn} (hc : CallSound P gs call) {ρ : Operand → Value} {o : Oper} {fid : Nat} {H H' : AHeap} {v : Value} (hwf : WF H) (h : aStep P call ρ o fid H = some (v, H')) : LogStep fid H H' := by
  unfold aStep at h
  split at h
  · split at h
    · rename_i g args _
      obtain ⟨h1, _⟩ := hc _ _ _ _ _ h hwf
      exact ⟨fun i hi _ hl => h1.same i hi hl, h1.log, h1.next, fun i hi _ hn => h1.live i hi hn, fun _ => h1.wf, fun i hi => (h1.logged i hi).imp id fun h2 => h2.imp id fun h3 => .inr h3⟩
    · cases h
  · have h1 := aSimple_log h
    have h2 := aSimple_live h
    exact ⟨fun i _ hf hl => h1.same i hf hl, h1.log, by rw [h1.next]; exact Nat.le_refl _, fun i _ hf hn => h2.live i hf hn, fun hfn hw i hi => h2.live i (by rw [h1.next] at hi; omega) (hw i (by rw [h1.next] at hi; exact hi)), fun i hi => (h2.logged i hi).imp id fun h3 => h3.imp id fun h4 => .inl h4⟩

theorem step_sound {P : Program} {gs : List Nat} {call : CallFn} (hc : CallSound P gs call) {env : Tr Value} {o : Oper} {fid : Nat} {H H' : AHeap} {v : Value} (h : aStep P call (aEval env) o fid H = some (v, H')) (hwf : WF H)
    {β : Ren} {a : Act} {w : World} (hr : Rel β H w) (hg : GlobOk gs β) (he : ∀ x ∈ o.op.operands, VR β (aEval env x) (a.eval x)) (hf : β fid = none) (hfn : fid < H.next) {next : Act → World → Prop} {Q : Exit → Act → World → Prop}
    (hn : ∀ β' v' w', VR β' v v' → Goes β H w β' H' w' → (∀ i, i ≠ fid → i < H.next → β' i = β i) → next (a.put o.dst v') w') : o.wp P a w next Q := by
  unfold aStep at h
  split at h
  · rename_i f as ts ho
    split at h
    · rename_i g args hcal
      rw [ho] at hcal
      obtain ⟨first, captured, fn, h1, h2, h3, h4, rfl⟩ := callee_some hcal
      obtain ⟨_, hsnd⟩ := hc _ _ _ _ _ h hwf
      have hvf := he f (by simp [ho, Op.operands, Call.operands])
      rw [h1] at hvf
      generalize hu : a.eval f = u at hvf
      cases hvf with
      | @func _ _ first' _ captured' hs1 hs2 hv1 hv2 =>
        have hargs : ListVR β (first.toList ++ as.toList.map (aEval env) ++ captured.toList) (first'.toList ++ as.toList.map a.eval ++ captured'.toList) :=
          ((ListVR.ofArr hs1 hv1).app (ListVR.map _ fun x hx => he x (by simp [ho, Op.operands, Call.operands, Array.mem_toList_iff.1 hx]))).app (ListVR.ofArr hs2 hv2)
        have hcalls := hsnd β w _ hr hg hargs
        unfold Oper.wp
        have hrun : (execOp a.eval o).run P w = .ok (.enter g (first'.toList ++ as.toList.map a.eval ++ captured'.toList).toArray) w := by
          have harr : (first' ++ as.map a.eval) ++ captured' = (first'.toList ++ as.toList.map a.eval ++ captured'.toList).toArray := by apply Array.ext'; simp
          simp only [execOp, ho, resolve, Sem.run_bind, hu, Deferred.ofValue, Sem.run_pure, Result.andThen_ok, invoke, callFunc, run_program, h2, h4]
          cases hb : fn.body with
          | none => rw [hb] at h3; cases h3
          | some c => simp [hb, harr]
        rw [hrun, Oper.upon_enter]
        refine hcalls.mono fun e w' hh => ?_
        obtain ⟨v', β', rfl, q1, q2, q3⟩ := hh
        exact hn β' v' w' q1 q2 (fun i _ hi => q3 i hi)
    · cases h
  · obtain ⟨β', v', w', ⟨n, h1, h2⟩, h3, h4, h5, h6⟩ := aSimple_fits h β w a.eval hr hf hfn he
    have := hn β' v' w' h3 h4 (fun i hi _ => h5 i hi)
    unfold Oper.wp
    rw [h1]
    rcases h2 with rfl | ⟨rfl, rfl⟩
    · rw [Oper.upon_value]; exact this
    · rw [Oper.upon_skip]; exact this

/-- the operations of a region in the text's order -/
theorem aOps_sound {P : Program} {gs : List Nat} {call : CallFn} (hc : CallSound P gs call) (ops : Array Oper) (nt base : Nat) : ∀ (os : List Oper) (k : Nat) (env : Tr Value) (H : AHeap) (env' : Tr Value) (H' : AHeap), os = ops.toList.drop k → aOps P gs call ops.toList nt base os k env H = some (env', H') → base + ops.size ≤ H.next → WF H →
    LogLe base H H' ∧ ∀ (β : Ren) (a : Act) (w : World), Rel β H w → GlobOk gs β → EnvRel β env a nt → (∀ j, k ≤ j → j < ops.size → β (base + j) = none) → ∀ Q : Exit → Act → World → Prop, (∀ β' a' w', Goes β H w β' H' w' → (∀ i, i < base → β' i = β i) → EnvRel β' env' a' nt → Q .normal a' w') → wpOps P ops Q (List.range' k os.length) a w
  | [], k, env, H, env', H', _, h, _, _ => by
    simp only [aOps] at h
    cases h
    refine ⟨.refl _ _, fun β a w hr hg he _ Q hq => ?_⟩
    exact hq β a w (.refl hr) (fun _ _ => rfl) he
  | o :: os, k, env, H, env', H', hos, h, hb, hwf => by
    have hk : k < ops.size := by
      have : (o :: os).length = ops.size - k := by rw [hos]; simp
      simp at this; omega
    have hok : ops[k]? = some o := by
      have : (ops.toList.drop k)[0]? = some o := by rw [← hos]; rfl
      simpa using this
    have hos' : os = ops.toList.drop (k + 1) := by
      have := congrArg List.tail hos
      simpa using this
    simp only [aOps] at h
    cases hd : (dstOk nt o.dst && constsOk gs o) with
    | false => rw [hd] at h; cases h
    | true =>
      rw [hd] at h
      simp only [cond] at h
      rw [Bool.and_eq_true] at hd
      cases hwt : wantedA o ops.toList env with
      | false =>
        rw [hwt] at h
        simp only at h
        obtain ⟨h1, h2⟩ := aOps_sound hc ops nt base os (k + 1) _ H env' H' hos' h hb hwf
        refine ⟨h1, fun β a w hr hg he hfr Q hq => ?_⟩
        have hw2 : Region.wanted o (yielded ops a.tmps) = false := by rw [← wanted_same he]; exact hwt
        simp only [List.length_cons, List.range'_succ, wpOps, hok, hw2, Bool.false_eq_true, if_false]
        exact h2 β _ w hr hg (he.put (vr_undef β) hd.1) (fun j h1 h2 => hfr j (by omega) h2) Q hq
      | true =>
        rw [hwt] at h
        simp only at h
        cases hs : aStep P call (aEval env) o (base + k) H with
        | none => rw [hs] at h; cases h
        | some r =>
          obtain ⟨v, H1⟩ := r
          rw [hs] at h
          simp only at h
          have hl := step_log hc hwf hs
          obtain ⟨h1, h2⟩ := aOps_sound hc ops nt base os (k + 1) _ H1 env' H' hos' h (Nat.le_trans hb hl.next) (hl.wf (by omega) hwf)
          have hl2 : LogLe base H H1 := ⟨fun i hi hn => hl.same i (by omega) (by omega) hn, hl.log, hl.next, fun i hi hn => hl.live i (by omega) (by omega) hn, hl.wf (by omega), fun i hi => by
            rcases hl.logged i hi with h1 | h1 | h1 | h1
            · exact .inl h1
            · exact .inr (.inl h1)
            · exact .inr (.inr (by omega))
            · exact .inr (.inr (by omega))⟩
          refine ⟨hl2.trans h1, fun β a w hr hg he hfr Q hq => ?_⟩
          have hw2 : Region.wanted o (yielded ops a.tmps) = true := by rw [← wanted_same he]; exact hwt
          simp only [List.length_cons, List.range'_succ, wpOps, hok, hw2, if_true]
          refine .inl (step_sound hc hs hwf hr hg (eval_vr he hg hd.2) (hfr k (Nat.le_refl _) hk) (by omega) fun β' v' w' q1 q2 q3 => ?_)
          refine h2 β' _ w' q2.rel (hg.mono q2.le) ((he.mono q2.le).put q1 hd.1) (fun j j1 j2 => ?_) Q fun β2 a2 w2 r1 r2 r3 => hq β2 a2 w2 (q2.trans r1) (fun i hi => (r2 i hi).trans (q3 i (by omega) (by omega))) r3
          rw [q3 (base + j) (by omega) (by omega)]
          exact hfr j (by omega) j2
end Go.Proofs.Ytmflapajjghpmaa
