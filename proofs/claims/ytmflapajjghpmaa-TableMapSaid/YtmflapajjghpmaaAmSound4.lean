/- The abstract machine is sound: what it answers, the model's call answers, whatever the world. -/
import Derived.Test.YtmflapajjghpmaaAmSound3
namespace Go.Proofs.Ytmflapajjghpmaa
open Go.RowKit

theorem aLoad_run {P : Program} {t : TypeId} {x x' v : Value} {H : AHeap} {β : Ren} {w : World} (h : aLoad P t x H = some v) (hr : Rel β H w) (hx : VR β x x') : ∃ a v', x' = .pointer (some a) ∧ (loadVar t a).run P w = .ok v' w ∧ VR β v v' := by
  have hp : ∃ a, x = .pointer (some a) := by
    unfold aLoad at h
    split at h
    · exact ⟨_, rfl⟩
    · cases h
  obtain ⟨a, rfl⟩ := hp
  have hp' : ∃ a', x' = .pointer (some a') := by cases hx; exact ⟨_, rfl⟩
  obtain ⟨a', rfl⟩ := hp'
  let o : Oper := { dst := none, op := .load t (.tmp 0), type := 0, pos := "", after := #[], guard := none }
  obtain ⟨v', h1, h2⟩ := load_value (P := P) (o := o) (ρ := fun _ => .pointer (some a)) (ρ' := fun _ => .pointer (some a')) rfl h hr hx
  have hrun : (execOp (fun _ => .pointer (some a')) o).run P w = ((loadVar t a').run P w).andThen fun v w => .ok (.value v) w := by
    simp only [execOp, o, Instr.loadAt, Instr.sureAddr, Sem.run_bind, Sem.run_pure, Result.andThen_ok]
  rw [hrun] at h1
  refine ⟨a', v', rfl, ?_, h2⟩
  cases hl : (loadVar t a').run P w with
  | halt e w2 => rw [hl] at h1; cases h1
  | ok u w2 =>
    rw [hl] at h1
    simp only [Result.andThen_ok, Result.ok.injEq, Next.value.injEq] at h1
    rw [h1.1, h1.2]

theorem argsEnv_get : ∀ (vs : List Value) (k : Nat) (env : Tr Value) (t : Nat), (argsEnv vs k env).get t = if k ≤ t ∧ t < k + vs.length then vs[t - k]? else env.get t
  | [], k, env, t => by simp only [argsEnv, List.length_nil, Nat.add_zero]; rw [if_neg (by omega)]
  | v :: vs, k, env, t => by
    simp only [argsEnv]
    rw [argsEnv_get vs (k + 1) _ t, Tr.get_put]
    by_cases e : t = k
    · subst e
      rw [if_neg (by omega), if_pos rfl, if_pos ⟨Nat.le_refl _, by simp⟩]
      simp
    · by_cases h : k + 1 ≤ t ∧ t < k + 1 + vs.length
      · rw [if_pos h, if_pos ⟨by omega, by simp; omega⟩]
        rw [show t - k = (t - (k + 1)) + 1 from by omega]; rfl
      · rw [if_neg h, if_neg e, if_neg (by simp; omega)]

theorem args_rel {β : Ren} {args args' : List Value} (h : ListVR β args args') {nt : Nat} (hn : args.length ≤ nt) : EnvRel β (argsEnv args 0 .nil) { tmps := args'.toArray ++ Array.replicate (nt - args'.toArray.size) undef, defers := [] } nt := by
  refine ⟨by simp [← h.1]; omega, rfl, fun t => ?_⟩
  rw [argsEnv_get]
  simp only [Array.getD_eq_getD_getElem?, Array.getElem?_append, List.size_toArray]
  by_cases ht : t < args.length
  · have ht' : t < args'.length := by rw [← h.1]; exact ht
    rw [if_pos ⟨Nat.zero_le _, by omega⟩, if_pos ht']
    have e1 : args[t - 0]? = some (args[t]) := by simp [ht]
    have e2 : args'.toArray[t]? = some (args'[t]) := by simp [ht']
    rw [e1, e2]
    exact h.2 t _ _ (by simp [ht]) (by simp [ht'])
  · have ht' : ¬ t < args'.length := by rw [← h.1]; exact ht
    rw [if_neg (by omega), if_neg ht', Tr.get_nil]
    rw [Array.getElem?_replicate]
    split <;> exact vr_undef β

theorem results_run {P : Program} {β : Ren} {env : Tr Value} {a : Act} {nt : Nat} {H : AHeap} {w : World} (hr : Rel β H w) (he : EnvRel β env a nt) (g : ResultVar → Sem Value) (hg1 : ∀ t, g (.tmp t) = pure (a.tmps.getD t undef)) (hg2 : ∀ x t, g (.cell x t) = do loadVar t (← asAddr (a.tmps.getD x undef))) : ∀ (rs : List ResultVar) (vs : List Value), aResults P env H rs = some vs → ∃ vs', ListVR β vs vs' ∧ (rs.mapM g).run P w = .ok vs' w
  | [], vs, h => by
    simp only [aResults] at h; cases h
    exact ⟨[], ⟨rfl, fun j x y hx => by simp at hx⟩, by simp⟩
  | .tmp t :: rs, vs, h => by
    simp only [aResults] at h
    split at h
    · rename_i us hus
      cases h
      obtain ⟨vs', h1, h2⟩ := results_run hr he g hg1 hg2 rs us hus
      refine ⟨a.tmps.getD t undef :: vs', ⟨by simp [h1.1], fun j x y hx hy => ?_⟩, ?_⟩
      · cases j with
        | zero => simp only [List.getElem?_cons_zero, Option.some.injEq] at hx hy; subst hx hy; exact he.val t
        | succ j => exact h1.2 j x y hx hy
      · simp only [List.mapM_cons, hg1, Sem.run_bind, Sem.run_pure, Result.andThen_ok]
        rw [h2]; rfl
    · cases h
  | .cell x t :: rs, vs, h => by
    simp only [aResults] at h
    split at h
    · rename_i v us hv hus
      cases h
      obtain ⟨vs', h1, h2⟩ := results_run hr he g hg1 hg2 rs us hus
      obtain ⟨ad, v', e1, e2, e3⟩ := aLoad_run hv hr (he.val x)
      refine ⟨v' :: vs', ⟨by simp [h1.1], fun j x y hx hy => ?_⟩, ?_⟩
      · cases j with
        | zero => simp only [List.getElem?_cons_zero, Option.some.injEq] at hx hy; subst hx hy; exact e3
        | succ j => exact h1.2 j x y hx hy
      · have e4 : (asAddr (a.tmps.getD x undef)).run P w = .ok ad w := by rw [e1]; rfl
        simp only [List.mapM_cons, hg2, Sem.run_bind, e4, Sem.run_pure, Result.andThen_ok, e2]
        rw [h2]; rfl
    · cases h

theorem oneOf_vr {β : Ren} {vs vs' : List Value} (h : ListVR β vs vs') : VR β (oneOf vs) (if h : vs'.toArray.size = 1 then vs'.toArray[0] else .tuple vs'.toArray) := by
  match vs, vs', h with
  | [v], [v'], h => exact h.2 0 v v' rfl rfl
  | [], [], h => exact .tuple rfl (fun j x y hx => by simp at hx)
  | a :: b :: l, a' :: b' :: l', h =>
    rw [dif_neg (by simp)]
    exact .tuple (by simpa using h.1) (fun j x y hx hy => h.2 j x y (by simpa using hx) (by simpa using hy))
  | [], _ :: _, h => have := h.1; simp at this
  | _ :: _, [], h => have := h.1; simp at this
  | [_], _ :: _ :: _, h => have := h.1; simp at this
  | _ :: _ :: _, [_], h => have := h.1; simp at this

theorem call_sound {P : Program} {gs : List Nat} (hm : P.follows .mixedOrders = true) : ∀ n, CallSound P gs (aCall P gs n)
  | 0 => fun f args H v H' h _ => by simp only [aCall] at h; cases h
  | n + 1 => fun f args H v H' h hwf => by
    have hc := call_sound (gs := gs) hm n
    simp only [aCall] at h
    split at h
    · rename_i fn hfn
      split at h
      · rename_i c hbody
        cases hb : Nat.ble args.length fn.ntmps with
        | false => rw [hb] at h; cases h
        | true =>
          rw [hb] at h
          simp only [cond] at h
          rw [Nat.ble_eq] at hb
          obtain ⟨way, env1, H1, vs, hcode, hway, hres, hleave⟩ : ∃ way env1 H1 vs, aCode P gs (aCall P gs n) fn.ntmps n c (argsEnv args 0 .nil) (unlog H) = some (way, env1, H1) ∧ (way = .on ∨ way = .back) ∧ aResults P env1 H1 fn.results.toList = some vs ∧ leave H (oneOf vs) H1 = (v, H') := by
            split at h
            · rename_i env1 H1 hcode
              obtain ⟨vs, h1, h2⟩ := Option.map_eq_some_iff.1 h
              exact ⟨_, env1, H1, vs, hcode, .inl rfl, h1, h2⟩
            · rename_i env1 H1 hcode
              obtain ⟨vs, h1, h2⟩ := Option.map_eq_some_iff.1 h
              exact ⟨_, env1, H1, vs, hcode, .inr rfl, h1, h2⟩
            · cases h
          obtain ⟨hlogs, hsnd⟩ := aCode_sound hc hm fn.ntmps n c _ _ way env1 H1 hcode (show WF (unlog H) from hwf)
          have hlogs : LogLe H.next (unlog H) H1 := hlogs
          have hpost : ∀ (β : Ren) (w : World) (args' : List Value), Rel β H w → GlobOk gs β → ListVR β args args' → ∀ R : Ending → World → Prop, (∀ β' v' w', VR β' (oneOf vs) v' → Goes β H w β' H1 w' → Ren.agree H.next β β' → R (.returned v') w') → Calls P f args'.toArray w R := by
            intro β w args' hr hg hargs R hR
            refine calls_of_wp hfn hbody ?_
            refine hsnd β _ w (show Rel β (unlog H) w from ⟨hr.obj, hr.blk, hr.apart, hr.fresh⟩) hg (args_rel hargs hb) _ fun β' a' w' q1 q2 q3 => ?_
            obtain ⟨vs', r1, r2⟩ := results_run q1.rel q3 (fun
              | .tmp t => pure (a'.tmps.getD t undef)
              | .cell a t => do loadVar t (← asAddr (a'.tmps.getD a undef))) (fun _ => rfl) (fun _ _ => rfl) fn.results.toList vs hres
            have hrun : (results fn a'.tmps).run P w' = .ok (if h : vs'.toArray.size = 1 then vs'.toArray[0] else .tuple vs'.toArray) w' := by
              unfold results
              rw [Array.mapM_eq_mapM_toList]
              simp only [Sem.run_bind, Sem.run_map]
              refine Eq.trans (congrArg (fun r => (Result.andThen (Result.andThen r fun a w => .ok (List.toArray a) w) fun a w' => (pure (if h : a.size = 1 then a[0] else Value.tuple a) : Sem Value).run P w')) r2) rfl
            have hdone : bodyPost P fn R .normal a' w' := ⟨q3.defers, _, hrun, hR β' _ w' (oneOf_vr r1) ⟨q1.le, q1.rel, q1.os, q1.tape, q1.output, q1.size, q1.keep, q1.own, q1.vis⟩ q2⟩
            rcases hway with rfl | rfl
            · exact hdone
            · exact hdone
          unfold leave at hleave
          cases hq : (H1.log.all (fun i => Nat.ble H.next i) && lowV H.next (oneOf vs)) with
          | true =>
            rw [hq] at hleave
            simp only [cond, Prod.mk.injEq] at hleave
            obtain ⟨rfl, rfl⟩ := hleave
            rw [Bool.and_eq_true] at hq
            refine ⟨.refl _ _, fun β w args' hr hg hargs => hpost β w args' hr hg hargs _ fun β' v' w' q1 q2 q3 => ?_⟩
            refine ⟨v', β, rfl, lowV_vr q3 hq.2 q1, ?_, fun _ _ => rfl⟩
            refine q2.forget hr fun i o hi hs => ?_
            obtain ⟨s, hs⟩ := hs
            have hlt : i < H.next := by
              rcases Nat.lt_or_ge i H.next with h1 | h1
              · exact h1
              · rw [hr.fresh i h1] at hs; cases hs
            rw [hlogs.same i hlt fun hm2 => ?_]
            · exact hi
            · have := List.all_eq_true.1 hq.1 i hm2
              rw [Nat.ble_eq] at this; omega
          | false =>
            rw [hq] at hleave
            simp only [cond, Prod.mk.injEq] at hleave
            obtain ⟨rfl, rfl⟩ := hleave
            have hmem : ∀ i, i ∈ (H1.log.filter fun i => Nat.blt i H.next).foldl (fun l i => noteId i l) H.log ↔ (i ∈ H1.log ∧ i < H.next) ∨ i ∈ H.log := fun i => by
              rw [mem_notes, List.mem_filter, Nat.blt_eq]
            refine ⟨⟨fun i hi hn => ?_, fun i hi => (hmem i).2 (.inr hi), hlogs.next, hlogs.live, hlogs.wf, fun i hi => ?_⟩, fun β w args' hr hg hargs => hpost β w args' hr hg hargs _ fun β' v' w' q1 q2 q3 => ?_⟩
            · exact hlogs.same i hi fun h1 => hn ((hmem i).2 (.inl ⟨h1, hi⟩))
            · rcases (hmem i).1 hi with h1 | h1
              · rcases hlogs.logged i h1.1 with h2 | h2 | h2
                · simp [unlog] at h2
                · exact .inr (.inl h2)
                · exact .inr (.inr h2)
              · exact .inl h1
            · exact ⟨v', β', rfl, q1, ⟨q2.le, ⟨q2.rel.obj, q2.rel.blk, q2.rel.apart, q2.rel.fresh⟩, q2.os, q2.tape, q2.output, q2.size, q2.keep, q2.own, q2.vis⟩, q3⟩
      · cases h
    · cases h

/-- nothing is there -/
def emptyH : AHeap := { objs := .nil, next := 0, log := [] }
theorem emptyH_wf : WF emptyH := fun i _ => by simp [emptyH, AHeap.get, Tr.get_nil]
theorem emptyH_rel (w : World) : Rel (fun _ => none) emptyH w := ⟨fun i o s h => (by simp [emptyH, AHeap.get, Tr.get_nil] at h), fun i s h => (by cases h), fun i j oi oj si sj h => (by simp [emptyH, AHeap.get, Tr.get_nil] at h), fun _ _ => rfl⟩

def okTrue (r : Option (Value × AHeap)) : Bool := match r with
  | some (.bool true, _) => true
  | _ => false
/-- a function of flat arguments that the abstract machine answers by true: the model answers true in whatever world, and leaves what was there -/
theorem true_of_am {P : Program} (hm : P.follows .mixedOrders = true) (n : Nat) (f : FuncId) (args : List Value) (hf : args.all flat = true) (h : okTrue (aCall P [] n f args emptyH) = true) (w : World) : Calls P f args.toArray w fun e w' => e = .returned (.bool true) ∧ Below w.heap.size w w' := by
  unfold okTrue at h
  split at h
  · rename_i H' hr
    obtain ⟨_, hs⟩ := call_sound (gs := []) hm n f args emptyH (.bool true) H' hr emptyH_wf
    refine (hs _ w args (emptyH_rel w) (fun g hg => (by cases hg)) ⟨rfl, fun j x y hx hy => ?_⟩).mono fun e w' hh => ?_
    · rw [hx] at hy; cases hy
      exact (flat_vr (List.all_eq_true.1 hf x (List.mem_of_getElem? hx)) _).1
    · obtain ⟨v', β', rfl, h1, h2, _⟩ := hh
      cases h1
      exact ⟨rfl, h2.below (fun i s hi => (by cases hi))⟩
  · cases h
end Go.Proofs.Ytmflapajjghpmaa
