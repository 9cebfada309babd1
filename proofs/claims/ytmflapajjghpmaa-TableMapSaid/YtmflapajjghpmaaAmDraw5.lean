/- A region that draws its order: one operation, whichever is ready; the end. -/
import Derived.Test.YtmflapajjghpmaaAmDraw4
namespace Go.Proofs.Ytmflapajjghpmaa
open Go.RowKit

section
variable {P : Program} {gs : List Nat} {call : CallFn} {ops : Array Oper} {nt base : Nat} {E : Nat → Tr Value} {M : Nat → AHeap} {cls : Nat → Option Class} {val : Nat → Value} {res : Nat → AHeap}
  {β0 : Ren} {H0 : AHeap} {w0 : World}

theorem inv_step (hc : CallSound P gs call) (ht : Trace P gs call ops nt base 0 E M cls val res) (hb : base + ops.size ≤ (M 0).next) (hw : WF (M 0)) (h0 : ∀ j, j < ops.size → (M 0).get (base + j) = none) (hord : orderOk ops.toList (Region.before ops).toList = true) (hg0 : GlobOk gs β0)
    {S S' : Nat → Bool} {a : Act} {w : World} {β : Ren} (inv : Inv P gs ops nt base E M cls res β0 H0 w0 S a w β) {k : Nat} {o : Oper} (ho : ops[k]? = some o) (hSk : S k = false) (hpre : ∀ e ∈ o.after, Region.binds .any e = true → S e.on = true) (hS' : ∀ j, S' j = if j = k then true else S j) :
    (Region.wanted o (yielded ops a.tmps) = false → Inv P gs ops nt base E M cls res β0 H0 w0 S' (a.put o.dst undef) w β) ∧
    (Region.wanted o (yielded ops a.tmps) = true → ∀ (K : Act → World → Prop) (Q : Exit → Act → World → Prop), (∀ β' v' w', Inv P gs ops nt base E M cls res β0 H0 w0 S' (a.put o.dst v') w' β' → K (a.put o.dst v') w') → o.wp P a w K Q) := by
  have hk : k < ops.size := (Array.getElem?_eq_some_iff.1 ho).1
  obtain ⟨hedge, hnames⟩ := order_on hord ho
  have factP : ∀ j, (bfAt ops k).testBit j = true → S j = true := fun j hj => by
    obtain ⟨e, h1, h2, h3⟩ := bf_spec ops ho hj
    have h4 := hpre e h1 h2
    rcases h3 with rfl | h3
    · exact h4
    · exact inv.down e.on h4 j h3
  have factQ : ∀ j, S j = true → ¬ (bfAt ops j).testBit k = true := fun j hj hbit => by
    have := inv.down j hj k hbit
    rw [hSk] at this; cases this
  have hSk' : S' k = true := by rw [hS']; simp
  have hSo : ∀ j, j ≠ k → S' j = S j := fun j hj => by rw [hS', if_neg hj]
  -- temporaries
  have henv : ∀ t ∈ namesOf ops.toList o, curE ops E S t = (E k).get t := fun t hn => by
    refine cur_off (fun j hj hT => ht.offE hj hT) k (by omega) fun j hj hT => ?_
    obtain ⟨p, hp, hd⟩ := hT
    rcases hnames t hn j p hp hd with rfl | ⟨h1, h2⟩ | ⟨h1, h2⟩
    · simp [hSk]
    · simp [factP j h2, h1]
    · have : ¬ S j = true := fun hs => factQ j hs h2
      simp [this]; omega
  have hvr : ∀ t ∈ namesOf ops.toList o, VR β (((E k).get t).getD undef) (a.tmps.getD t undef) := fun t hn => by
    have := inv.env t
    rw [henv t hn] at this; exact this
  have hwant : wantedA o ops.toList (E k) = Region.wanted o (yielded ops a.tmps) := wanted_at ops o fun j want t h1 h2 => hvr t (mem_names_guard h1 h2)
  obtain ⟨hdst, hconst, hstep⟩ := ht.step k o (Nat.zero_le _) ho
  have hfacts := fun j (hj : j ≤ ops.size) => Trace.facts hc ht hb hw j hj
  have hnx := fun i j (h1 : i ≤ j) (h2 : j ≤ ops.size) => Trace.next hc ht hb hw i j h1 h2
  -- the frame behind it
  have envAfter : ∀ {β' : Ren} {v v' : Value}, β.le β' → VR β' v v' → E (k + 1) = putE (E k) o.dst v → (a.put o.dst v').tmps.size = nt ∧ (a.put o.dst v').defers = [] ∧ ∀ t, VR β' ((curE ops E S' t).getD undef) ((a.put o.dst v').tmps.getD t undef) := by
    intro β' v v' hle hv hE
    cases hd : o.dst with
    | none =>
      refine ⟨inv.size, inv.defers, fun t => ?_⟩
      have : curE ops E S' t = curE ops E S t := cur_skip _ fun j hj hT => by
        obtain ⟨p, hp, hpd⟩ := hT
        refine hSo j fun e => ?_
        subst e; rw [ho] at hp; cases hp; rw [hd] at hpd; cases hpd
      rw [this]; exact (inv.env t).mono hle
    | some d =>
      have hdn : d < nt := by rw [hd] at hdst; simpa [dstOk, Nat.blt_eq] using hdst
      refine ⟨by simp [Act.put, inv.size], inv.defers, fun t => ?_⟩
      by_cases e : t = d
      · subst e
        have hcl : curE ops E S' t = (E (k + 1)).get t := cur_last hSk' ⟨o, ho, hd⟩ _ hk fun j h1 h2 h3 hT => by
          obtain ⟨p, hp, hpd⟩ := hT
          rw [hSo j (by omega)] at h3
          rcases hnames t (mem_names_dst hd) j p hp hpd with h4 | ⟨h4, _⟩ | ⟨_, h4⟩
          · omega
          · omega
          · exact factQ j h3 h4
        rw [hcl, hE, hd, putE_same]
        simp only [Option.getD_some, Act.put, Array.getD_eq_getD_getElem?]
        rw [Array.getElem?_setIfInBounds_self_of_lt (by rw [inv.size]; exact hdn)]
        exact hv
      · have hcl : curE ops E S' t = curE ops E S t := cur_skip _ fun j hj hT => by
          obtain ⟨p, hp, hpd⟩ := hT
          refine hSo j fun e2 => ?_
          subst e2; rw [ho] at hp; cases hp; rw [hd] at hpd; cases hpd; exact e rfl
        rw [hcl]
        simp only [Act.put, Array.getD_eq_getD_getElem?]
        rw [Array.getElem?_setIfInBounds_ne (Ne.symm e)]
        have := (inv.env t).mono hle
        simpa only [Array.getD_eq_getD_getElem?] using this
  have hdown : ∀ j, S' j = true → ∀ i, (bfAt ops j).testBit i = true → S' i = true := fun j hj i hi => by
    have hup : ∀ i, S i = true → S' i = true := fun i hi => by
      by_cases e : i = k
      · rw [e]; exact hSk'
      · rw [hSo i e]; exact hi
    by_cases e : j = k
    · subst e; exact hup i (factP i hi)
    · rw [hSo j e] at hj; exact hup i (inv.down j hj i hi)
  refine ⟨fun hwf => ?_, fun hwt K Q hK => ?_⟩
  · -- left out
    rw [← hwant] at hwf
    rcases hstep with ⟨_, hE, hH, hcl⟩ | ⟨hw2, _⟩
    · have hcur : curH base M cls res ops.size S' = curH base M cls res ops.size S := by
        funext i
        exact cur_skip _ fun j hj hT => hSo j fun e => by subst e; exact hT.1 hcl
      obtain ⟨e1, e2, e3⟩ := envAfter β.le_refl (vr_undef β) hE
      refine ⟨by rw [hcur]; exact inv.rel, by rw [hcur]; exact inv.far, inv.old, fun j hj hs => ?_, fun j hj hs i => ?_, e1, e2, e3, hdown⟩
      · by_cases e : j = k
        · subst e; rw [hSk'] at hs; cases hs
        · rw [hSo j e] at hs; exact inv.futA j hj hs
      · by_cases e : j = k
        · subst e; rw [hSk'] at hs; cases hs
        · rw [hSo j e] at hs; exact inv.futB j hj hs i
    · rw [hwf] at hw2; cases hw2
  · -- run
    rw [← hwant] at hwt
    rcases hstep with ⟨hw2, _⟩ | ⟨_, hst, hE, hH, hcl⟩
    · rw [hwt] at hw2; cases hw2
    generalize hcdef : classOf (aEval (E k)) (base + k) (M k) (res k) o.op = c at hcl
    obtain ⟨hsay, _⟩ := ht.says ho hcl
    have hnoclash1 : ∀ j d, j < k → S j = false → cls j = some d → clash d c = false := fun j d hj hs hd => by
      rcases ht.pair j k d c (Nat.zero_le _) hj hk hd hcl with h1 | h1
      · have := factP j h1; rw [hs] at this; cases this
      · exact h1
    have hnoclash2 : ∀ j d, k < j → j < ops.size → S j = true → cls j = some d → clash c d = false := fun j d hj hjs hs hd => by
      rcases ht.pair k j c d (Nat.zero_le _) hj hjs hcl hd with h1 | h1
      · exact absurd h1 (factQ j hs)
      · exact h1
    have hno : (M k).get (base + k) = none := (hfacts k (by omega)).2.2 k (Nat.le_refl _) (h0 k hk) hk
    have hHget : ∀ i, (M (k + 1)).get i = (res k).get i := fun i => by rw [hH]; rfl
    have hHnext : (M (k + 1)).next = (res k).next := by rw [hH]; rfl
    -- nobody behind it that was run turns what it turns
    have hlast : ∀ i, touch base M cls res k i → curH base M cls res ops.size S' i = (M (k + 1)).get i := fun i hT => by
      refine cur_last hSk' hT _ hk fun j hj hjs hSj hTj => ?_
      rw [hSo j (by omega)] at hSj
      have hbase : base + ops.size ≤ (M k).next := (hfacts k (by omega)).2.1
      have hbasej : base + ops.size ≤ (M j).next := (hfacts j (by omega)).2.1
      have hkj : (M (k + 1)).next ≤ (M j).next := hnx (k + 1) j (by omega) (by omega)
      have hkk : (M k).next ≤ (M (k + 1)).next := hnx k (k + 1) (by omega) (by omega)
      -- j's class, where it is loud
      have loudj : (i ∈ (res j).log ∨ ((M j).next ≤ i ∧ i < (M (j + 1)).next)) → ∃ wj, cls j = some (.other false wj) ∧ (i ∈ (res j).log → i ∈ wj) := fun h => ht.loud hjs ⟨hTj.1, h⟩
      have loudk : (i ∈ (res k).log ∨ ((M k).next ≤ i ∧ i < (M (k + 1)).next)) → ∃ wk, cls k = some (.other false wk) ∧ (i ∈ (res k).log → i ∈ wk) := fun h => ht.loud hk ⟨hT.1, h⟩
      have two : (i ∈ (res k).log ∨ ((M k).next ≤ i ∧ i < (M (k + 1)).next)) → (i ∈ (res j).log ∨ ((M j).next ≤ i ∧ i < (M (j + 1)).next)) → False := fun h1 h2 => by
        obtain ⟨wk, hk1, _⟩ := loudk h1
        obtain ⟨wj, hj1, _⟩ := loudj h2
        rw [hcl] at hk1; cases hk1
        have := (clash_out (hnoclash2 j _ hj hjs hSj hj1)).1
        cases this
      rcases hT.2 with hT1 | hT1 | hT1
      · rcases hTj.2 with h2 | h2 | h2
        · exact two (.inl hT1) (.inl h2)
        · -- i is j's number
          have hl := step_log hc (show WF (unlog (M k)) from (hfacts k (by omega)).1) hst
          rcases hl.logged i hT1 with h3 | h3 | h3 | h3
          · simp [unlog] at h3
          · exact h3 ((hfacts k (by omega)).2.2 j (by omega) (h0 j hjs) hjs ▸ (by rw [h2]; rfl))
          · omega
          · have : (unlog (M k)).next = (M k).next := rfl
            omega
        · exact two (.inl hT1) (.inr h2)
      · rcases hTj.2 with h2 | h2 | h2
        · -- i is k's number, and j notes it
          obtain ⟨wj, hj1, hj2⟩ := loudj (.inl h2)
          have hncl := hnoclash2 j _ hj hjs hSj hj1
          have idle : res k = unlog (M k) → False := fun hres => by
            have hsn : (M (k + 1)).get (base + k) = none := by rw [hHget, hres]; exact hno
            have hidle := Trace.idle hc ht hb hw h0 hk hsn j hj (by omega)
            have hokj : ops[j]? = some (ops[j]'hjs) := by simp [hjs]
            obtain ⟨_, hstj⟩ := ht.says hokj hj1
            rcases (step_log hc (show WF (unlog (M j)) from (hfacts j (by omega)).1) hstj).logged i h2 with h3 | h3 | h3 | h3
            · simp [unlog] at h3
            · exact h3 (by rw [hT1]; exact hidle)
            · omega
            · have : (unlog (M j)).next = (M j).next := rfl
              omega
          cases c with
          | pure => exact idle hsay.1
          | load i' => exact idle hsay.1
          | fresh f =>
            obtain ⟨rfl, _⟩ := hsay
            exact clash_fresh.2 hncl (by rw [← hT1]; exact hj2 h2)
          | other q wq => have := (clash_out hncl).2; cases this
        · omega
        · omega
      · rcases hTj.2 with h2 | h2 | h2
        · exact two (.inr hT1) (.inl h2)
        · omega
        · exact two (.inr hT1) (.inr h2)
    have hoff : ∀ i, ¬ touch base M cls res k i → curH base M cls res ops.size S' i = curH base M cls res ops.size S i := fun i hT =>
      cur_skip _ fun j hj hTj => hSo j fun e => by subst e; exact hT hTj
    -- what it looks at is as it was in the text's order
    have hlook : (∀ q wq, c = .other q wq → ∀ i o' s, (M k).get i = some o' → β i = some s → curH base M cls res ops.size S i = some o') ∧ (∀ i, c = .load i → ∀ o' s, (M k).get i = some o' → β i = some s → curH base M cls res ops.size S i = some o') := by
      have core : ∀ i o' s, (M k).get i = some o' → β i = some s → (∀ j wj, cls j = some (.other false wj) → i ∈ wj ∨ ((M j).next ≤ i ∧ i < (M (j + 1)).next) → (j < k → S j = false → False) ∧ (k < j → j < ops.size → S j = true → i ∈ wj → False)) → curH base M cls res ops.size S i = some o' := by
        intro i o' s hi hs hcore
        refine (cur_off (fun j hj hT => Trace.off hc ht hb hw hj hT) k (by omega) fun j hj hT => ?_).trans hi
        by_cases e : j = k
        · subst e; simp [hSk]
        · rcases Nat.lt_or_ge j k with hjk | hjk
          · refine ⟨fun _ => hjk, fun _ => ?_⟩
            cases hSj : S j with
            | true => rfl
            | false =>
              exfalso
              rcases hT.2 with h2 | h2 | h2
              · obtain ⟨wj, hj1, hj2⟩ := ht.loud hj ⟨hT.1, .inl h2⟩
                exact (hcore j wj hj1 (.inl (hj2 h2))).1 hjk hSj
              · have := inv.futA j hj hSj
                rw [← h2, hs] at this; cases this
              · have := inv.futB j hj hSj i h2.1 h2.2
                rw [hs] at this; cases this
          · refine ⟨fun hSj => ?_, fun h => by omega⟩
            exfalso
            rcases hT.2 with h2 | h2 | h2
            · obtain ⟨wj, hj1, hj2⟩ := ht.loud hj ⟨hT.1, .inl h2⟩
              exact (hcore j wj hj1 (.inl (hj2 h2))).2 (by omega) hj hSj (hj2 h2)
            · have := (hfacts k (by omega)).2.2 j (by omega) (h0 j hj) hj
              rw [← h2, hi] at this; cases this
            · have := (hfacts k (by omega)).1 i (by have := hnx k j (by omega) (by omega); omega)
              rw [hi] at this; cases this
      refine ⟨fun q wq hcq i o' s hi hs => core i o' s hi hs fun j wj hj1 _ => ⟨fun hjk hSj => ?_, fun hkj hjs hSj _ => ?_⟩, fun i0 hc0 o' s hi hs => core i0 o' s hi hs fun j wj hj1 hor => ⟨fun hjk hSj => ?_, fun hkj hjs hSj hmem => ?_⟩⟩
      · have h1 := hnoclash1 j _ hjk hSj hj1
        rw [hcq] at h1
        have := (clash_out h1).1; cases this
      · have h1 := hnoclash2 j _ hkj hjs hSj hj1
        rw [hcq] at h1
        have := (clash_out h1).2; cases this
      · have h1 := hnoclash1 j _ hjk hSj hj1
        rw [hc0] at h1
        rcases hor with h2 | h2
        · exact clash_load.1 h1 h2
        · have := inv.futB j (by omega) hSj i0 h2.1 h2.2
          rw [hs] at this; cases this
      · have h1 := hnoclash2 j _ hkj hjs hSj hj1
        rw [hc0] at h1
        exact clash_load.2 h1 hmem
    -- the part of the memory that the operation is run on
    obtain ⟨Mk, Mk', hrunk, hsub, hnone, hon, hpart, hnew, hnextk, hnextk', hbk, hwfk⟩ : ∃ Mk Mk' : AHeap, aStep P call (aEval (E k)) o (base + k) Mk = some (val k, Mk') ∧
        (∀ i o' s, Mk.get i = some o' → β i = some s → curH base M cls res ops.size S i = some o') ∧ (∀ i, Mk.next ≤ i → β i = none) ∧
        (∀ i, touch base M cls res k i → (M (k + 1)).get i = Mk'.get i) ∧ (∀ i, ¬ touch base M cls res k i → Mk'.get i = Mk.get i) ∧
        (∀ i, Mk.next ≤ i → i < Mk'.next → touch base M cls res k i) ∧ Mk'.next ≤ (M ops.size).next ∧
        (∀ j i, j < ops.size → j ≠ k → (M j).next ≤ i → i < (M (j + 1)).next → i < Mk.next ∨ Mk'.next ≤ i) ∧ base + ops.size ≤ Mk.next ∧ WF Mk := by
      have hN : base + ops.size ≤ (M ops.size).next := (hfacts ops.size (Nat.le_refl _)).2.1
      have small : (res k).log = [] → (res k).next = (M k).next → ∀ i, touch base M cls res k i → i = base + k := fun hl hn i hT => by
        rcases hT.2 with h1 | h1 | h1
        · rw [hl] at h1; simp at h1
        · exact h1
        · rw [hHnext, hn] at h1; omega
      have rangeN : ∀ j i, j < ops.size → (M j).next ≤ i → i < (M (j + 1)).next → i < (M ops.size).next := fun j i hj _ h2 => by
        have := hnx (j + 1) ops.size (by omega) (Nat.le_refl _); omega
      cases c with
      | pure =>
        obtain ⟨hres, hG⟩ := hsay
        refine ⟨⟨.nil, (M ops.size).next, []⟩, ⟨.nil, (M ops.size).next, []⟩, hG _, fun i o' s h => ?_, inv.rel.fresh, fun i hT => ?_, fun _ _ => rfl, fun i h1 h2 => by simp only at h1 h2; omega, Nat.le_refl _, fun j i hj _ h1 h2 => .inl (rangeN j i hj h1 h2), hN, fun i _ => by simp [AHeap.get, Tr.get_nil]⟩
        · simp [AHeap.get, Tr.get_nil] at h
        · have := small (by rw [hres]; rfl) (by rw [hres]; rfl) i hT
          subst this
          rw [hHget, hres]
          exact hno
      | fresh f =>
        obtain ⟨rfl, ob, hres, hG⟩ := hsay
        refine ⟨⟨.nil, (M ops.size).next, []⟩, (⟨.nil, (M ops.size).next, []⟩ : AHeap).add (base + k) ob, hG _, fun i o' s h => ?_, inv.rel.fresh, fun i hT => ?_, fun i hT => ?_, fun i h1 h2 => ?_, Nat.le_refl _, fun j i hj _ h1 h2 => .inl (rangeN j i hj h1 h2), hN, fun i _ => by simp [AHeap.get, Tr.get_nil]⟩
        · simp [AHeap.get, Tr.get_nil] at h
        · have := small (by rw [hres]; rfl) (by rw [hres]; rfl) i hT
          subst this
          rw [hHget, hres, AHeap.get_add, AHeap.get_add, if_pos rfl, if_pos rfl]
        · rw [AHeap.get_add, if_neg]
          intro e; exact hT ⟨by rw [hcl]; simp, .inr (.inl e)⟩
        · simp only [AHeap.add] at h1 h2; omega
      | load i0 =>
        obtain ⟨hres, ob, hob, hG⟩ := hsay
        have hob' : (M k).get i0 = some ob := hob
        have hget : ∀ i, (⟨Tr.nil.put i0 (some ob), (M ops.size).next, []⟩ : AHeap).get i = if i = i0 then some ob else none := fun i => by simp only [AHeap.get, Tr.get_put, Tr.get_nil]
        refine ⟨⟨Tr.nil.put i0 (some ob), (M ops.size).next, []⟩, ⟨Tr.nil.put i0 (some ob), (M ops.size).next, []⟩, hG _ (by rw [hget, if_pos rfl]), fun i o' s h hs => ?_, inv.rel.fresh, fun i hT => ?_, fun _ _ => rfl, fun i h1 h2 => by simp only at h1 h2; omega, Nat.le_refl _, fun j i hj _ h1 h2 => .inl (rangeN j i hj h1 h2), hN, fun i hi => by
          rw [hget, if_neg]
          intro e
          subst e
          have h1 := (hfacts k (by omega)).1 i (by have := hnx k ops.size (by omega) (Nat.le_refl _); simp only at hi; omega)
          rw [hob'] at h1; cases h1⟩
        · rw [hget] at h
          by_cases e : i = i0
          · subst e; rw [if_pos rfl] at h; cases h
            exact hlook.2 i rfl ob s hob' hs
          · rw [if_neg e] at h; cases h
        · have := small (by rw [hres]; rfl) (by rw [hres]; rfl) i hT
          subst this
          rw [hHget, hres, hget, if_neg]
          · exact hno
          · intro e; rw [e, hob'] at hno; cases hno
      | other q wq =>
        refine ⟨unlog (M k), res k, hst, fun i o' s h hs => hlook.1 q wq rfl i o' s h hs, fun i hi => ?_, fun i _ => hHget i, fun i hT => ?_, fun i h1 h2 => ?_, ?_, fun j i hj hjk h1 h2 => ?_, (hfacts k (by omega)).2.1, (hfacts k (by omega)).1⟩
        · -- nothing from here on has been made
          have hi : (M k).next ≤ i := hi
          cases hbi : β i with
          | none => rfl
          | some s =>
            exfalso
            have hiN : i < (M ops.size).next := by
              rcases Nat.lt_or_ge i (M ops.size).next with h1 | h1
              · exact h1
              · have := inv.rel.fresh i h1; rw [hbi] at this; cases this
            -- the operation that made it
            have : ∀ m, k ≤ m → m ≤ ops.size → i < (M m).next → ∃ j, k ≤ j ∧ j < m ∧ (M j).next ≤ i ∧ i < (M (j + 1)).next := by
              intro m
              induction m with
              | zero => intro h1 _ h3; have : k = 0 := by omega
                        subst this; omega
              | succ m ih =>
                intro h1 h2 h3
                by_cases h4 : i < (M m).next
                · by_cases h5 : k ≤ m
                  · obtain ⟨j, j1, j2, j3⟩ := ih h5 (by omega) h4
                    exact ⟨j, j1, by omega, j3⟩
                  · have : k = m + 1 := by omega
                    subst this; omega
                · by_cases h5 : k ≤ m
                  · exact ⟨m, h5, by omega, by omega, h3⟩
                  · have : k = m + 1 := by omega
                    subst this; omega
            obtain ⟨j, hj1, hj2, hj3, hj4⟩ := this ops.size (by omega) (Nat.le_refl _) hiN
            cases hSj : S j with
            | false =>
              have := inv.futB j hj2 hSj i hj3 hj4
              rw [hbi] at this; cases this
            | true =>
              have hjk : k < j := by
                rcases Nat.lt_or_ge k j with h1 | h1
                · exact h1
                · have : j = k := by omega
                  subst this; rw [hSk] at hSj; cases hSj
              have hcj : cls j ≠ none := fun hn => by
                have hokj : ops[j]? = some (ops[j]'hj2) := by simp [hj2]
                obtain ⟨_, _, hs⟩ := ht.step j _ (Nat.zero_le _) hokj
                rcases hs with ⟨_, _, hHj, _⟩ | ⟨_, _, _, _, hcc⟩
                · rw [hHj] at hj4; omega
                · rw [hn] at hcc; cases hcc
              obtain ⟨wj, hw1, _⟩ := ht.loud hj2 ⟨hcj, .inr ⟨hj3, hj4⟩⟩
              have := (clash_out (hnoclash2 j _ hjk hj2 hSj hw1)).2
              cases this
        · rw [← hHget]; exact Trace.off hc ht hb hw hk hT
        · exact ⟨by rw [hcl]; simp, .inr (.inr ⟨h1, by rw [hHnext]; exact h2⟩)⟩
        · rw [← hHnext]; exact hnx (k + 1) ops.size (by omega) (Nat.le_refl _)
        · rcases Nat.lt_or_ge j k with h3 | h3
          · have := hnx (j + 1) k (by omega) (by omega)
            exact .inl (show i < (M k).next by omega)
          · have := hnx (k + 1) j (by omega) (by omega)
            rw [hHnext] at this
            exact .inr (by omega)
    have hrelk : Rel β Mk w := inv.rel.toRel Mk hsub hnone
    have hgb : GlobOk gs β := hg0.mono inv.far.le
    refine step_sound hc hrunk hwfk hrelk hgb (eval_at (fun t htm => hvr t (mem_names_op htm)) hgb hconst) (inv.futA k hk hSk) (by omega) fun β' v' w' q1 q2 q3 => hK β' v' w' ?_
    have st : StepF β (curH base M cls res ops.size S) Mk β' (curH base M cls res ops.size S') Mk' (base + k) (touch base M cls res k) :=
      ⟨hsub, fun i hT => (hlast i hT).trans (hon i hT), hoff, hpart, ⟨by rw [hcl]; simp, .inr (.inl rfl)⟩, hnew, q3⟩
    have hfresh : ∀ i, (M ops.size).next ≤ i → β' i = none := fun i hi => by
      by_cases h1 : i < Mk.next
      · have hN : base + ops.size ≤ (M ops.size).next := (hfacts ops.size (Nat.le_refl _)).2.1
        rw [q3 i (by omega) h1]; exact inv.rel.fresh i hi
      · exact q2.rel.fresh i (by omega)
    obtain ⟨e1, e2, e3⟩ := envAfter q2.le q1 hE
    refine ⟨inv.rel.after st q2 hfresh, inv.far.after st q2, fun i hi => ?_, fun j hj hs => ?_, fun j hj hs i h1 h2 => ?_, e1, e2, e3, hdown⟩
    · rw [q3 i (by omega) (by omega)]; exact inv.old i hi
    · have e : j ≠ k := fun e => by subst e; rw [hSk'] at hs; cases hs
      rw [hSo j e] at hs
      rw [q3 (base + j) (by omega) (by omega)]
      exact inv.futA j hj hs
    · have e : j ≠ k := fun e => by subst e; rw [hSk'] at hs; cases hs
      rw [hSo j e] at hs
      rcases hnextk' j i hj e h1 h2 with h3 | h3
      · have hbj := (hfacts j (by omega)).2.1
        rw [q3 i (by omega) h3]; exact inv.futB j hj hs i h1 h2
      · exact q2.rel.fresh i h3

theorem inv_end (hc : CallSound P gs call) (ht : Trace P gs call ops nt base 0 E M cls val res) (hb : base + ops.size ≤ (M 0).next) (hw : WF (M 0)) {S : Nat → Bool} {a : Act} {w : World} {β : Ren} (inv : Inv P gs ops nt base E M cls res β0 H0 w0 S a w β) (hS : ∀ j, j < ops.size → S j = true) :
    Goes β0 H0 w0 β (M ops.size) w ∧ (∀ i, i < base → β i = β0 i) ∧ EnvRel β (E ops.size) a nt := by
  have hH : ∀ i, curH base M cls res ops.size S i = (M ops.size).get i := fun i => cur_off (fun j hj hT => Trace.off hc ht hb hw hj hT) ops.size (Nat.le_refl _) fun j hj _ => by simp [hS j hj, hj]
  have hE : ∀ t, curE ops E S t = (E ops.size).get t := fun t => cur_off (fun j hj hT => ht.offE hj hT) ops.size (Nat.le_refl _) fun j hj _ => by simp [hS j hj, hj]
  have hr : Rel β (M ops.size) w := inv.rel.toRel _ (fun i o s h _ => by rw [hH]; exact h) inv.rel.fresh
  refine ⟨⟨inv.far.le, hr, inv.far.os, inv.far.tape, inv.far.output, inv.far.size, inv.far.keep, fun b hb2 ⟨i, o, s, h1, h2⟩ => inv.far.own b hb2 ⟨i, o, s, by rw [hH]; exact h1, h2⟩, fun b hb2 ⟨i, o, s, h1, h2⟩ => inv.far.vis b hb2 ⟨i, o, s, by rw [hH]; exact h1, h2⟩⟩, inv.old, ⟨inv.size, inv.defers, fun t => ?_⟩⟩
  rw [← hE]; exact inv.env t

theorem drawn_any (hc : CallSound P gs call) (ht : Trace P gs call ops nt base 0 E M cls val res) (hb : base + ops.size ≤ (M 0).next) (hw : WF (M 0)) (h0 : ∀ j, j < ops.size → (M 0).get (base + j) = none) (hord : orderOk ops.toList (Region.before ops).toList = true) (hg0 : GlobOk gs β0) (Q : Exit → Act → World → Prop)
    (hq : ∀ β a w, Goes β0 H0 w0 β (M ops.size) w → (∀ i, i < base → β i = β0 i) → EnvRel β (E ops.size) a nt → Q .normal a w) :
    ∀ (fuel : Nat) (listed : Array Bool) (a : Act) (w : World) (β : Ren) (U : List Nat), U.length ≤ fuel → (∀ j, j < ops.size → listed.getD j false = false → j ∈ U) → listed.size = ops.size → Inv P gs ops nt base E M cls res β0 H0 w0 (fun j => listed.getD j false) a w β → wpAny P .any ops Q fuel listed a w := by
  have atEnd : ∀ (listed : Array Bool) (a : Act) (w : World) (β : Ren), listed.size = ops.size → Inv P gs ops nt base E M cls res β0 H0 w0 (fun j => listed.getD j false) a w β → Region.ready .any ops listed = [] → Q .normal a w := by
    intro listed a w β hsz inv hr
    have hall : ∀ j, j < ops.size → listed.getD j false = true := by
      intro j
      induction j using Nat.strongRecOn with
      | _ j ih =>
        intro hj
        cases hl : listed.getD j false with
        | true => rfl
        | false =>
          exfalso
          have hok : ops[j]? = some (ops[j]'hj) := by simp [hj]
          have : j ∈ Region.ready .any ops listed := mem_ready.2 ⟨by
            rw [Array.getD_eq_getD_getElem?] at hl ⊢
            have : listed[j]? = some (listed[j]'(by omega)) := by simp [hsz, hj]
            rw [this] at hl ⊢
            exact hl, _, hok, fun e he hbd => by
            have hlt := (order_on hord hok).1 e he hbd
            exact ih e.on hlt (by omega)⟩
          rw [hr] at this; cases this
    obtain ⟨g1, g2, g3⟩ := inv_end hc ht hb hw inv hall
    exact hq β a w g1 g2 g3
  intro fuel
  induction fuel with
  | zero =>
    intro listed a w β U hU hcov hsz inv
    have hU0 : U = [] := List.eq_nil_of_length_eq_zero (by omega)
    subst hU0
    have hr : Region.ready .any ops listed = [] := by
      cases hrr : Region.ready .any ops listed with
      | nil => rfl
      | cons j l =>
        exfalso
        have hmem : j ∈ Region.ready .any ops listed := by rw [hrr]; exact List.mem_cons_self
        obtain ⟨h1, o, ho, _⟩ := mem_ready.1 hmem
        have hj : j < ops.size := (Array.getElem?_eq_some_iff.1 ho).1
        have : listed.getD j false = false := by
          rw [Array.getD_eq_getD_getElem?] at h1 ⊢
          have e : listed[j]? = some (listed[j]'(by omega)) := by simp [hsz, hj]
          rw [e] at h1 ⊢
          exact h1
        have := hcov j hj this
        cases this
    exact ⟨hr, atEnd listed a w β hsz inv hr⟩
  | succ fuel ih =>
    intro listed a w β U hU hcov hsz inv
    refine ⟨atEnd listed a w β hsz inv, fun k hk => ?_⟩
    obtain ⟨h1, o, ho, hall⟩ := mem_ready.1 hk
    have hks : k < ops.size := (Array.getElem?_eq_some_iff.1 ho).1
    have hSk : listed.getD k false = false := by
      rw [Array.getD_eq_getD_getElem?] at h1 ⊢
      have e : listed[k]? = some (listed[k]'(by omega)) := by simp [hsz, hks]
      rw [e] at h1 ⊢
      exact h1
    have hset : ∀ j, (listed.setIfInBounds k true).getD j false = if j = k then true else listed.getD j false := fun j => by
      by_cases e : j = k
      · subst e; rw [if_pos rfl, Array.getD_eq_getD_getElem?, Array.getElem?_setIfInBounds_self_of_lt (by omega)]; rfl
      · rw [if_neg e, getD_set_ne false (Ne.symm e)]
    obtain ⟨s1, s2⟩ := inv_step hc ht hb hw h0 hord hg0 inv ho hSk hall (S' := fun j => (listed.setIfInBounds k true).getD j false) hset
    have hUk : k ∈ U := hcov k hks hSk
    have next : ∀ a' w' β', Inv P gs ops nt base E M cls res β0 H0 w0 (fun j => (listed.setIfInBounds k true).getD j false) a' w' β' → wpAny P .any ops Q fuel (listed.setIfInBounds k true) a' w' := fun a' w' β' inv' => by
      refine ih _ a' w' β' (U.erase k) (by rw [List.length_erase_of_mem hUk]; omega) (fun j hj hl => ?_) (by simpa using hsz) inv'
      rw [hset] at hl
      by_cases e : j = k
      · rw [if_pos e] at hl; cases hl
      · rw [if_neg e] at hl
        exact (List.mem_erase_of_ne e).2 (hcov j hj hl)
    unfold wpOp
    simp only [ho]
    cases hwt : Region.wanted o (yielded ops a.tmps) with
    | true => simp only [if_true]; exact .inl (s2 hwt _ _ fun β' v' w' inv' => next _ w' β' inv')
    | false => simp only [Bool.false_eq_true, if_false]; exact next _ w β (s1 hwt)
end
end Go.Proofs.Ytmflapajjghpmaa
