/- The abstract machine is sound: code and calls. -/
import Derived.Test.YtmflapajjghpmaaAmDraw5
import Derived.LoopN
import Derived.Scope
namespace Go.Proofs.Ytmflapajjghpmaa
open Go.RowKit

theorem Trace.logs {P : Program} {gs : List Nat} {call : CallFn} {ops : Array Oper} {nt base : Nat} {E : Nat → Tr Value} {M : Nat → AHeap} {cls : Nat → Option Class} {val : Nat → Value} {res : Nat → AHeap} (hc : CallSound P gs call) (ht : Trace P gs call ops nt base 0 E M cls val res) (hb : base + ops.size ≤ (M 0).next) (hw : WF (M 0)) :
    ∀ k, k ≤ ops.size → LogLe base (M 0) (M k)
  | 0, _ => .refl _ _
  | k + 1, hk => by
    refine (Trace.logs hc ht hb hw k (by omega)).trans ?_
    have hok : ops[k]? = some (ops[k]'(by omega)) := by simp
    have hf := Trace.facts hc ht hb hw k (by omega)
    obtain ⟨_, _, hs⟩ := ht.step k _ (Nat.zero_le _) hok
    rcases hs with ⟨_, _, hH, _⟩ | ⟨_, hs, _, hH, _⟩
    · rw [hH]; exact .refl _ _
    · have hl := step_log hc (show WF (unlog (M k)) from hf.1) hs
      have hlog : ∀ i, i ∈ (M (k + 1)).log ↔ i ∈ (res k).log ∨ i ∈ (M k).log := fun i => by rw [hH]; exact mem_notes i _ _
      have hnx : (unlog (M k)).next = (M k).next := rfl
      refine ⟨fun i hi hn => ?_, fun i hi => (hlog i).2 (.inr hi), ?_, fun i hi hn => ?_, fun hw => ?_, fun i hi => ?_⟩
      · rw [hH]
        exact hl.same i (by omega) (by omega) (fun h => hn ((hlog i).2 (.inl h)))
      · rw [hH]; exact hl.next
      · rw [hH]; exact hl.live i (by omega) (by omega) hn
      · rw [hH]; exact hl.wf (by omega) hw
      · rcases (hlog i).1 hi with h1 | h1
        · rcases hl.logged i h1 with h2 | h2 | h2 | h2
          · simp [unlog] at h2
          · exact .inr (.inl h2)
          · exact .inr (.inr (by omega))
          · exact .inr (.inr (by omega))
        · exact .inl h1

def CodeSound (P : Program) (gs : List Nat) (nt : Nat) (c : Code) (env : Tr Value) (H : AHeap) (ex : Exit) (env' : Tr Value) (H' : AHeap) : Prop :=
  LogLe H.next H H' ∧ ∀ (β : Ren) (a : Act) (w : World), Rel β H w → GlobOk gs β → EnvRel β env a nt → ∀ Q : Exit → Act → World → Prop, (∀ β' a' w', Goes β H w β' H' w' → Ren.agree H.next β β' → EnvRel β' env' a' nt → Q ex a' w') → c.wp P Q a w

theorem widen_log (H : AHeap) (n : Nat) : LogLe H.next H { H with next := H.next + n } :=
  ⟨fun _ _ _ => rfl, fun _ h => h, Nat.le_add_right _ _, fun _ _ h => h, fun hw i hi => hw i (Nat.le_trans (Nat.le_add_right _ n) hi), fun _ h => .inl h⟩
theorem widen_rel {β : Ren} {H : AHeap} {w : World} (h : Rel β H w) (n : Nat) : Rel β { H with next := H.next + n } w :=
  h.less (fun _ _ _ h _ => h) (fun i hi => h.fresh i (Nat.le_trans (Nat.le_add_right _ n) hi))
theorem widen_goes {β β' : Ren} {H H' : AHeap} {w w' : World} {n : Nat} (g : Goes β { H with next := H.next + n } w β' H' w') : Goes β H w β' H' w' :=
  ⟨g.le, g.rel, g.os, g.tape, g.output, g.size, g.keep, g.own, g.vis⟩

theorem aRegion_sound {P : Program} {gs : List Nat} {call : CallFn} (hc : CallSound P gs call) (nt : Nat) (id : Nat) (ops : Array Oper) {env env' : Tr Value} {H H' : AHeap} (h : aOps P gs call ops.toList nt H.next ops.toList 0 env { H with next := H.next + ops.toList.length } = some (env', H')) (hwf : WF H) : CodeSound P gs nt (.region id ops false) env H .normal env' H' := by
  obtain ⟨h1, h2⟩ := aOps_sound hc ops nt H.next ops.toList 0 env _ env' H' (by simp) h (by simp) ((widen_log H _).wf hwf)
  refine ⟨(widen_log H _).trans h1, fun β a w hr hg he Q hq => ?_⟩
  apply wp_region
  rw [List.range_eq_range']
  have := h2 β a w (widen_rel hr _) hg he (fun j _ _ => hr.fresh _ (Nat.le_add_right _ _)) Q (fun β' a' w' q1 q2 q3 => hq β' a' w' (widen_goes q1) q2 q3)
  simpa using this

theorem aDraw_sound {P : Program} {gs : List Nat} {call : CallFn} (hc : CallSound P gs call) (hm : P.follows .mixedOrders = true) (nt : Nat) (id : Nat) (ops : Array Oper) (hord : orderOk ops.toList (Region.before ops).toList = true) {env env' : Tr Value} {H H' : AHeap} (h : aDraw P gs call ops.toList (Region.before ops).toList nt H.next ops.toList 0 env { H with next := H.next + ops.toList.length } [] = some (env', H')) (hwf : WF H) : CodeSound P gs nt (.region id ops true) env H .normal env' H' := by
  obtain ⟨E, M, cls, val, res, e1, e2, e3, e4, ht, _⟩ := draw_trace ops nt H.next ops.toList 0 env _ [] env' H' (Nat.zero_le _) (by simp) (fun p hp => by cases hp) h
  have hb : H.next + ops.size ≤ (M 0).next := by rw [e2]; simp
  have hw : WF (M 0) := by rw [e2]; exact (widen_log H _).wf hwf
  have h0 : ∀ j, j < ops.size → (M 0).get (H.next + j) = none := fun j hj => by rw [e2]; exact hwf _ (Nat.le_add_right _ _)
  have hl := Trace.logs hc ht hb hw ops.size (Nat.le_refl _)
  rw [e2, e4] at hl
  refine ⟨(widen_log H _).trans hl, fun β a w hr hg he Q hq => ?_⟩
  apply wp_region_any hm
  rw [World.drew_eq]
  have hcurH : ∀ i, curH H.next M cls res ops.size (fun j => (Array.replicate ops.size false).getD j false) i = H.get i := fun i => by
    have : curH H.next M cls res ops.size (fun j => (Array.replicate ops.size false).getD j false) i = (M 0).get i := cur_off (fun j hj hT => Trace.off hc ht hb hw hj hT) 0 (Nat.zero_le _) fun j hj _ => by
      simp [Array.getD_eq_getD_getElem?, hj]
    rw [this, e2]; rfl
  have hcurE : ∀ t, curE ops E (fun j => (Array.replicate ops.size false).getD j false) t = env.get t := fun t => by
    have : curE ops E (fun j => (Array.replicate ops.size false).getD j false) t = (E 0).get t := cur_off (fun j hj hT => ht.offE hj hT) 0 (Nat.zero_le _) fun j hj _ => by
      simp [Array.getD_eq_getD_getElem?, hj]
    rw [this, e1]
  have hfun : curH H.next M cls res ops.size (fun j => (Array.replicate ops.size false).getD j false) = H.get := funext hcurH
  have hSf : ∀ j, (Array.replicate ops.size false).getD j false = false := fun j => by
    rw [Array.getD_eq_getD_getElem?, Array.getElem?_replicate]; split <;> rfl
  have hge : ∀ j, j ≤ ops.size → H.next ≤ (M j).next := fun j hj => by
    have := Trace.next hc ht hb hw 0 j (Nat.zero_le _) hj
    omega
  refine drawn_any hc ht hb hw h0 hord hg Q (H0 := H) (w0 := w) (fun β' a' w' q1 q2 q3 => hq β' a' w' (by rw [← e4]; exact q1) q2 (by rw [← e3]; exact q3)) ops.size _ a w.drew β (List.range ops.size) (by simp) (fun j hj _ => by simp [hj]) (by simp) ?_
  refine ⟨?_, ?_, fun _ _ => rfl, fun j _ _ => hr.fresh _ (Nat.le_add_right _ _), fun j hj _ i h1 _ => hr.fresh i (Nat.le_trans (hge j (by omega)) h1), he.size, he.defers, fun t => ?_, fun k hk => ?_⟩
  · rw [hfun]
    exact ⟨fun i o s a b => (hr.obj i o s a b).mono β.le_refl rfl, hr.blk, hr.apart, fun i hi => hr.fresh i (Nat.le_trans (hge _ (Nat.le_refl _)) hi)⟩
  · rw [hfun]
    exact ⟨β.le_refl, rfl, rfl, rfl, Nat.le_refl _, fun _ _ _ => rfl, fun _ _ h => h, fun _ _ h => h⟩
  · rw [hcurE]; exact he.val t
  · simp only [hSf] at hk; cases hk

def exitOf : Way → Exit
  | .on => .normal
  | .out i => .exit i
  | .back => .ret

theorem loop_sound {P : Program} {gs : List Nat} {nt : Nat} {c : Code} {body : Tr Value → AHeap → Option (Way × Tr Value × AHeap)} (hbody : ∀ env H way env' H', body env H = some (way, env', H') → WF H → CodeSound P gs nt c env H (exitOf way) env' H') :
    ∀ (n : Nat) (env : Tr Value) (H : AHeap) (way : Way) (env' : Tr Value) (H' : AHeap), loopN body Way.isOn n env H = some (way, env', H') → WF H →
      LogLe H.next H H' ∧ ∀ (β : Ren) (a : Act) (w : World), Rel β H w → GlobOk gs β → EnvRel β env a nt → ∀ Q : Exit → Act → World → Prop, (∀ β' a' w', Goes β H w β' H' w' → Ren.agree H.next β β' → EnvRel β' env' a' nt → Q (exitOf way) a' w') → Code.rounds P c Q n a w
  | 0, env, H, way, env', H', h, _ => by simp only [loopN] at h; cases h
  | n + 1, env, H, way, env', H', h, hwf => by
    simp only [loopN] at h
    split at h
    · rename_i e env1 H1 hb
      obtain ⟨h1, h2⟩ := hbody env H e env1 H1 hb hwf
      cases e with
      | on =>
        simp only [Way.isOn, cond] at h
        obtain ⟨h3, h4⟩ := loop_sound hbody n env1 H1 way env' H' h (h1.wf hwf)
        refine ⟨h1.trans (h3.mono h1.next), fun β a w hr hg he Q hq => ?_⟩
        rw [rounds_succ]
        refine h2 β a w hr hg he _ fun β1 a1 w1 q1 q2 q3 => ?_
        exact h4 β1 a1 w1 q1.rel (hg.mono q1.le) q3 Q fun β' a' w' r1 r2 r3 => hq β' a' w' (q1.trans r1) (fun i hi => (r2 i (Nat.lt_of_lt_of_le hi h1.next)).trans (q2 i hi)) r3
      | out i =>
        simp only [Way.isOn, cond, Option.some.injEq, Prod.mk.injEq] at h
        obtain ⟨rfl, rfl, rfl⟩ := h
        exact ⟨h1, fun β a w hr hg he Q hq => by rw [rounds_succ]; exact h2 β a w hr hg he _ hq⟩
      | back =>
        simp only [Way.isOn, cond, Option.some.injEq, Prod.mk.injEq] at h
        obtain ⟨rfl, rfl, rfl⟩ := h
        exact ⟨h1, fun β a w hr hg he Q hq => by rw [rounds_succ]; exact h2 β a w hr hg he _ hq⟩
    · cases h

theorem aCode_sound {P : Program} {gs : List Nat} {call : CallFn} (hc : CallSound P gs call) (hm : P.follows .mixedOrders = true) (nt fuel : Nat) (c : Code) : ∀ (env : Tr Value) (H : AHeap) (way : Way) (env' : Tr Value) (H' : AHeap), aCode P gs call nt fuel c env H = some (way, env', H') → WF H → CodeSound P gs nt c env H (exitOf way) env' H' := by
  induction c with
  | skip =>
    intro env H way env' H' h hwf
    simp only [aCode] at h; cases h
    exact ⟨.refl _ _, fun β a w hr hg he Q hq => wp_skip (hq β a w (.refl hr) (fun _ _ => rfl) he)⟩
  | region id ops draw =>
    intro env H way env' H' h hwf
    simp only [aCode] at h
    obtain ⟨r, hr, he⟩ := Option.map_eq_some_iff.1 h
    cases he
    cases draw with
    | false => exact aRegion_sound hc nt id ops hr hwf
    | true =>
      simp only [cond] at hr
      cases ho : orderOk ops.toList (Region.before ops).toList with
      | false => rw [ho] at hr; cases hr
      | true => rw [ho] at hr; exact aDraw_sound hc hm nt id ops ho hr hwf
  | seq x y ihx ihy =>
    intro env H way env' H' h hwf
    simp only [aCode] at h
    split at h
    · rename_i env1 H1 hx
      obtain ⟨h1, h2⟩ := ihx env H .on env1 H1 hx hwf
      obtain ⟨h3, h4⟩ := ihy env1 H1 way env' H' h (h1.wf hwf)
      refine ⟨h1.trans (h3.mono h1.next), fun β a w hr hg he Q hq => wp_seq ?_⟩
      refine h2 β a w hr hg he _ fun β1 a1 w1 q1 q2 q3 => ?_
      exact h4 β1 a1 w1 q1.rel (hg.mono q1.le) q3 Q fun β' a' w' r1 r2 r3 => hq β' a' w' (q1.trans r1) (fun i hi => (r2 i (Nat.lt_of_lt_of_le hi h1.next)).trans (q2 i hi)) r3
    · rename_i r hne
      obtain ⟨h1, h2⟩ := ihx env H way env' H' h hwf
      refine ⟨h1, fun β a w hr hg he Q hq => wp_seq (h2 β a w hr hg he _ fun β' a' w' q1 q2 q3 => ?_)⟩
      cases way with
      | on => exact absurd h (hne _ _)
      | out i => exact hq β' a' w' q1 q2 q3
      | back => exact hq β' a' w' q1 q2 q3
  | cond x a b iha ihb =>
    intro env H way env' H' h hwf
    simp only [aCode] at h
    split at h
    · rename_i t hx
      have hev : ∀ {β : Ren} {ac : Act}, EnvRel β env ac nt → ac.eval x = .bool t := fun {β ac} he => by
        cases x with
        | tmp k =>
          have hv := he.val k
          simp only [aEval] at hx
          rw [hx] at hv
          show ac.tmps.getD k undef = _
          generalize ac.tmps.getD k undef = u at hv
          cases hv; rfl
        | const v => exact hx
        | global g => cases hx
        | func f => cases hx
      cases t with
      | true =>
        obtain ⟨h1, h2⟩ := iha env H way env' H' h hwf
        exact ⟨h1, fun β ac w hr hg he Q hq => wp_cond_true (hev he) (h2 β ac w hr hg he Q hq)⟩
      | false =>
        obtain ⟨h1, h2⟩ := ihb env H way env' H' h hwf
        exact ⟨h1, fun β ac w hr hg he Q hq => wp_cond_false (hev he) (h2 β ac w hr hg he Q hq)⟩
    · cases h
  | block id x ih =>
    intro env H way env' H' h hwf
    simp only [aCode] at h
    split at h
    · rename_i i env1 H1 hx
      obtain ⟨h1, h2⟩ := ih env H (.out i) env1 H1 hx hwf
      cases hb : Nat.beq i id with
      | true =>
        have := Nat.eq_of_beq_eq_true hb; subst this
        rw [hb] at h
        simp only [cond, Option.some.injEq, Prod.mk.injEq] at h
        obtain ⟨rfl, rfl, rfl⟩ := h
        refine ⟨h1, fun β a w hr hg he Q hq => wp_block (h2 β a w hr hg he _ fun β' a' w' q1 q2 q3 => ?_)⟩
        simp only [exitOf, Exit.inBlock, if_true]
        exact hq β' a' w' q1 q2 q3
      | false =>
        have hne := Nat.ne_of_beq_eq_false hb
        rw [hb] at h
        simp only [cond, Option.some.injEq, Prod.mk.injEq] at h
        obtain ⟨rfl, rfl, rfl⟩ := h
        refine ⟨h1, fun β a w hr hg he Q hq => wp_block (h2 β a w hr hg he _ fun β' a' w' q1 q2 q3 => ?_)⟩
        simp only [exitOf, Exit.inBlock, if_neg hne]
        exact hq β' a' w' q1 q2 q3
    · rename_i r hne
      obtain ⟨h1, h2⟩ := ih env H way env' H' h hwf
      refine ⟨h1, fun β a w hr hg he Q hq => wp_block (h2 β a w hr hg he _ fun β' a' w' q1 q2 q3 => ?_)⟩
      cases way with
      | on => exact hq β' a' w' q1 q2 q3
      | out i => exact absurd h (hne _ _ _)
      | back => exact hq β' a' w' q1 q2 q3
  | loop x ih =>
    intro env H way env' H' h hwf
    simp only [aCode] at h
    obtain ⟨h1, h2⟩ := loop_sound (P := P) (gs := gs) (nt := nt) (c := x) ih fuel env H way env' H' h hwf
    exact ⟨h1, fun β a w hr hg he Q hq => wp_loop_rounds fuel (h2 β a w hr hg he Q hq)⟩
  | exit id =>
    intro env H way env' H' h hwf
    simp only [aCode] at h; cases h
    exact ⟨.refl _ _, fun β a w hr hg he Q hq => wp_exit (hq β a w (.refl hr) (fun _ _ => rfl) he)⟩
  | label l =>
    intro env H way env' H' h hwf
    simp only [aCode] at h; cases h
    exact ⟨.refl _ _, fun β a w hr hg he Q hq => wp_label (hq β a w (.refl hr) (fun _ _ => rfl) he)⟩
  | ret =>
    intro env H way env' H' h hwf
    simp only [aCode] at h; cases h
    exact ⟨.refl _ _, fun β a w hr hg he Q hq => wp_ret (hq β a w (.refl hr) (fun _ _ => rfl) he)⟩
  | scope x ih =>
    intro env H way env' H' h hwf
    simp only [aCode] at h
    split at h
    · rename_i env1 H1 hx
      cases h
      obtain ⟨h1, h2⟩ := ih env H .on env' H' hx hwf
      exact ⟨h1, fun β a w hr hg he Q hq => wp_scope_straight (h2 β a w hr hg he _ hq)⟩
    · rename_i env1 H1 hx
      cases h
      obtain ⟨h1, h2⟩ := ih env H .back env' H' hx hwf
      exact ⟨h1, fun β a w hr hg he Q hq => wp_scope_straight (h2 β a w hr hg he _ hq)⟩
    · cases h
  | goto l => intro env H way env' H' h _; simp only [aCode] at h; cases h
  | refuse s => intro env H way env' H' h _; simp only [aCode] at h; cases h
  | rangeFunc f ps a b _ _ => intro env H way env' H' h _; simp only [aCode] at h; cases h
end Go.Proofs.Ytmflapajjghpmaa
