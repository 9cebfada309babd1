/- A region that draws its order: whatever the order, the end is the same. -/
import Derived.Test.YtmflapajjghpmaaAmDraw2
namespace Go.Proofs.Ytmflapajjghpmaa
open Go.RowKit

def relog (H' : AHeap) (l : List Nat) : AHeap := { H' with log := H'.log.foldl (fun l i => noteId i l) l }
def unlog (H : AHeap) : AHeap := { H with log := [] }
/-- what was done, operation by operation, in the text's order, from place k on -/
structure Trace (P : Program) (gs : List Nat) (call : CallFn) (ops : Array Oper) (nt base k0 : Nat) (env : Nat → Tr Value) (H : Nat → AHeap) (cls : Nat → Option Class) (val : Nat → Value) (res : Nat → AHeap) : Prop where
  step : ∀ k o, k0 ≤ k → ops[k]? = some o → dstOk nt o.dst = true ∧ constsOk gs o = true ∧
    ((wantedA o ops.toList (env k) = false ∧ env (k + 1) = putE (env k) o.dst undef ∧ H (k + 1) = H k ∧ cls k = none) ∨
     (wantedA o ops.toList (env k) = true ∧ aStep P call (aEval (env k)) o (base + k) (unlog (H k)) = some (val k, res k) ∧ env (k + 1) = putE (env k) o.dst (val k) ∧ H (k + 1) = relog (res k) (H k).log ∧ cls k = some (classOf (aEval (env k)) (base + k) (H k) (res k) o.op)))
  pair : ∀ i k c d, k0 ≤ i → i < k → k < ops.size → cls i = some c → cls k = some d → (bfAt ops k).testBit i = true ∨ clash c d = false

theorem draw_trace {P : Program} {gs : List Nat} {call : CallFn} (ops : Array Oper) (nt base : Nat) : ∀ (os : List Oper) (k : Nat) (env : Tr Value) (H : AHeap) (cs : List (Nat × Class)) (env' : Tr Value) (H' : AHeap), k ≤ ops.size → os = ops.toList.drop k → (∀ p ∈ cs, p.1 < k) → aDraw P gs call ops.toList (Region.before ops).toList nt base os k env H cs = some (env', H') →
    ∃ (E : Nat → Tr Value) (M : Nat → AHeap) (cls : Nat → Option Class) (val : Nat → Value) (res : Nat → AHeap), E k = env ∧ M k = H ∧ E ops.size = env' ∧ M ops.size = H' ∧ Trace P gs call ops nt base k E M cls val res ∧ ∀ p ∈ cs, ∀ j d, k ≤ j → j < ops.size → cls j = some d → (bfAt ops j).testBit p.1 = true ∨ clash p.2 d = false
  | [], k, env, H, cs, env', H', hk, hos, _, h => by
    simp only [aDraw] at h
    cases h
    have hks : k = ops.size := by
      have := congrArg List.length hos; simp at this; omega
    subst hks
    exact ⟨fun _ => env, fun _ => H, fun _ => none, fun _ => undef, fun _ => H, rfl, rfl, rfl, rfl, ⟨fun k o hk ho => by have := (Array.getElem?_eq_some_iff.1 ho).1; omega, fun i k c d h1 h2 h3 h4 => by cases h4⟩, fun p _ j d h1 h2 => by omega⟩
  | o :: os, k, env, H, cs, env', H', hk, hos, hcs, h => by
    have hks : k < ops.size := by
      have := congrArg List.length hos; simp at this; omega
    have hok : ops[k]? = some o := by
      have : (ops.toList.drop k)[0]? = some o := by rw [← hos]; rfl
      simpa using this
    have hos' : os = ops.toList.drop (k + 1) := by
      have := congrArg List.tail hos
      simpa using this
    simp only [aDraw] at h
    cases hd : (dstOk nt o.dst && constsOk gs o) with
    | false => rw [hd] at h; cases h
    | true =>
      rw [hd] at h
      simp only [cond] at h
      rw [Bool.and_eq_true] at hd
      cases hwt : wantedA o ops.toList env with
      | false =>
        rw [hwt] at h
        simp only at h
        obtain ⟨E, M, cls, val, res, h1, h2, h3, h4, ht, hp⟩ := draw_trace ops nt base os (k + 1) _ H cs env' H' (by omega) hos' (fun p hp => by have := hcs p hp; omega) h
        refine ⟨fun j => if j = k then env else E j, fun j => if j = k then H else M j, fun j => if j = k then none else cls j, val, res, if_pos rfl, if_pos rfl, by simp only; rw [if_neg (by omega)]; exact h3, by simp only; rw [if_neg (by omega)]; exact h4, ⟨fun j o' hj ho' => ?_, fun i j c d hi hij hj hc hd => ?_⟩, fun p hp' j d hj hjs hcd => ?_⟩
        · by_cases e : j = k
          · subst e
            rw [hok] at ho'; cases ho'
            refine ⟨hd.1, hd.2, .inl ⟨by simp only [if_true]; exact hwt, by simp only [if_true]; rw [if_neg (by omega)]; exact h1, by simp only [if_true]; rw [if_neg (by omega)]; exact h2, by simp⟩⟩
          · have := ht.step j o' (by omega) ho'
            simp only [if_neg e, if_neg (show ¬ j + 1 = k by omega)]
            exact this
        · by_cases e : i = k
          · subst e; simp at hc
          · simp only [if_neg e] at hc
            simp only [if_neg (show ¬ j = k by omega)] at hd
            exact ht.pair i j c d (by omega) hij hj hc hd
        · by_cases e : j = k
          · subst e; simp at hcd
          · simp only [if_neg e] at hcd
            exact hp p hp' j d (by omega) hjs hcd
      | true =>
        rw [hwt] at h
        simp only at h
        cases hs : aStep P call (aEval env) o (base + k) { H with log := [] } with
        | none => rw [hs] at h; cases h
        | some r =>
          obtain ⟨v, R⟩ := r
          rw [hs] at h
          simp only at h
          cases hcl : (cs.any fun p => !(((Region.before ops).toList[k]?).getD 0).testBit p.1 && clash p.2 (classOf (aEval env) (base + k) H R o.op)) with
          | true => rw [hcl] at h; cases h
          | false =>
            rw [hcl] at h
            simp only at h
            obtain ⟨E, M, cls, val, res, h1, h2, h3, h4, ht, hp⟩ := draw_trace ops nt base os (k + 1) _ _ _ env' H' (by omega) hos' (fun p hp => by
              rcases List.mem_cons.1 hp with rfl | hp
              · simp
              · have := hcs p hp; omega) h
            refine ⟨fun j => if j = k then env else E j, fun j => if j = k then H else M j, fun j => if j = k then some (classOf (aEval env) (base + k) H R o.op) else cls j, fun j => if j = k then v else val j, fun j => if j = k then R else res j, if_pos rfl, if_pos rfl, by simp only; rw [if_neg (by omega)]; exact h3, by simp only; rw [if_neg (by omega)]; exact h4, ⟨fun j o' hj ho' => ?_, fun i j c d hi hij hj hc hd => ?_⟩, fun p hp' j d hj hjs hcd => ?_⟩
            · by_cases e : j = k
              · subst e
                rw [hok] at ho'; cases ho'
                refine ⟨hd.1, hd.2, .inr ⟨by simp only [if_true]; exact hwt, by simp only [if_true]; exact hs, by simp only [if_true]; rw [if_neg (by omega)]; exact h1, by simp only [if_true]; rw [if_neg (by omega)]; exact h2, by simp⟩⟩
              · have := ht.step j o' (by omega) ho'
                simp only [if_neg e, if_neg (show ¬ j + 1 = k by omega)]
                exact this
            · simp only [if_neg (show ¬ j = k by omega)] at hd
              by_cases e : i = k
              · subst e
                simp only [if_true, Option.some.injEq] at hc
                subst hc
                exact hp _ (List.mem_cons_self) j d (by omega) hj hd
              · simp only [if_neg e] at hc
                exact ht.pair i j c d (by omega) hij hj hc hd
            · by_cases e : j = k
              · subst e
                simp only [if_true, Option.some.injEq] at hcd
                subst hcd
                have := List.any_eq_false.1 hcl p hp'
                unfold bfAt
                cases hb : ((((Region.before ops).toList[j]?).getD 0).testBit p.1) with
                | true => exact .inl rfl
                | false => rw [hb] at this; exact .inr (by simpa using this)
              · simp only [if_neg e] at hcd
                exact hp p (List.mem_cons_of_mem _ hp') j d (by omega) hjs hcd

/-- what an operation turns -/
def touch (base : Nat) (H : Nat → AHeap) (cls : Nat → Option Class) (res : Nat → AHeap) (k i : Nat) : Prop :=
  cls k ≠ none ∧ (i ∈ (res k).log ∨ i = base + k ∨ ((H k).next ≤ i ∧ i < (H (k + 1)).next))

section
variable {P : Program} {gs : List Nat} {call : CallFn} {ops : Array Oper} {nt base : Nat} {E : Nat → Tr Value} {M : Nat → AHeap} {cls : Nat → Option Class} {val : Nat → Value} {res : Nat → AHeap}

theorem Trace.facts (hc : CallSound P gs call) (ht : Trace P gs call ops nt base 0 E M cls val res) (hb : base + ops.size ≤ (M 0).next) (hw : WF (M 0)) :
    ∀ k, k ≤ ops.size → WF (M k) ∧ base + ops.size ≤ (M k).next ∧ (∀ j, k ≤ j → (M 0).get (base + j) = none → j < ops.size → (M k).get (base + j) = none)
  | 0, _ => ⟨hw, hb, fun j _ h _ => h⟩
  | k + 1, hk => by
    obtain ⟨h1, h2, h3⟩ := Trace.facts hc ht hb hw k (by omega)
    have hok : ops[k]? = some (ops[k]'(by omega)) := by simp
    obtain ⟨_, _, hs⟩ := ht.step k _ (Nat.zero_le _) hok
    rcases hs with ⟨_, _, hH, _⟩ | ⟨_, hs, _, hH, _⟩
    · rw [hH]; exact ⟨h1, h2, fun j hj => h3 j (by omega)⟩
    · have hl := step_log hc (show WF (unlog (M k)) from h1) hs
      have hn : (unlog (M k)).next ≤ (res k).next := hl.next
      have hn' : (M k).next ≤ (res k).next := hn
      rw [hH]
      refine ⟨?_, Nat.le_trans h2 hn', fun j hj h0 hjs => ?_⟩
      · have := hl.wf (show base + k < (M k).next by omega) (show WF (unlog (M k)) from h1)
        exact this
      · exact hl.live (base + j) (show base + j < (M k).next by omega) (by omega) (h3 j (by omega) h0 hjs)

theorem Trace.off (hc : CallSound P gs call) (ht : Trace P gs call ops nt base 0 E M cls val res) (hb : base + ops.size ≤ (M 0).next) (hw : WF (M 0)) {k : Nat} (hk : k < ops.size) {i : Nat} (hT : ¬ touch base M cls res k i) : (M (k + 1)).get i = (M k).get i := by
  have hok : ops[k]? = some (ops[k]'hk) := by simp [hk]
  obtain ⟨_, _, hs⟩ := ht.step k _ (Nat.zero_le _) hok
  rcases hs with ⟨_, _, hH, _⟩ | ⟨_, hs, _, hH, hcl⟩
  · rw [hH]
  · have hl := step_log hc (show WF (unlog (M k)) from (Trace.facts hc ht hb hw k (by omega)).1) hs
    have h1 : i ∉ (res k).log := fun h => hT ⟨by rw [hcl]; simp, .inl h⟩
    have h2 : i ≠ base + k := fun h => hT ⟨by rw [hcl]; simp, .inr (.inl h)⟩
    by_cases hi : i < (M k).next
    · rw [hH]; exact hl.same i hi h2 h1
    · have h3 : ¬ i < (M (k + 1)).next := fun h => hT ⟨by rw [hcl]; simp, .inr (.inr ⟨by omega, h⟩)⟩
      rw [(Trace.facts hc ht hb hw (k + 1) hk).1 i (by omega), (Trace.facts hc ht hb hw k (by omega)).1 i (by omega)]
theorem Trace.next (hc : CallSound P gs call) (ht : Trace P gs call ops nt base 0 E M cls val res) (hb : base + ops.size ≤ (M 0).next) (hw : WF (M 0)) : ∀ (k j : Nat), k ≤ j → j ≤ ops.size → (M k).next ≤ (M j).next
  | k, 0, h, _ => by rw [show k = 0 by omega]; exact Nat.le_refl _
  | k, j + 1, h, hj => by
    by_cases e : k = j + 1
    · rw [e]; exact Nat.le_refl _
    · refine Nat.le_trans (Trace.next hc ht hb hw k j (by omega) (by omega)) ?_
      have hok : ops[j]? = some (ops[j]'(by omega)) := by simp
      obtain ⟨_, _, hs⟩ := ht.step j _ (Nat.zero_le _) hok
      rcases hs with ⟨_, _, hH, _⟩ | ⟨_, hs, _, hH, hcl⟩
      · rw [hH]; exact Nat.le_refl _
      · rw [hH]; exact (step_log hc (show WF (unlog (M j)) from (Trace.facts hc ht hb hw j (by omega)).1) hs).next
end
end Go.Proofs.Ytmflapajjghpmaa
