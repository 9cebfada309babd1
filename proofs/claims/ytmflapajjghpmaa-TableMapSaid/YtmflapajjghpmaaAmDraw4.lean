/- A region that draws its order: the theorem. -/
import Derived.Test.YtmflapajjghpmaaAmDraw3
namespace Go.Proofs.Ytmflapajjghpmaa
open Go.RowKit

theorem order_on {ops : Array Oper} (h : orderOk ops.toList (Region.before ops).toList = true) {k : Nat} {o : Oper} (ho : ops[k]? = some o) : (∀ e ∈ o.after, Region.binds .any e = true → e.on < k) ∧
    ∀ t ∈ namesOf ops.toList o, ∀ j p, ops[j]? = some p → p.dst = some t → j = k ∨ (j < k ∧ (bfAt ops k).testBit j = true) ∨ (k < j ∧ (bfAt ops j).testBit k = true) := by
  have hz : ∀ {k : Nat} {o : Oper}, ops[k]? = some o → (o, k) ∈ ops.toList.zipIdx := fun {k o} ho => by
    rw [List.mem_iff_getElem?]
    exact ⟨k, by simp [List.getElem?_zipIdx, ho]⟩
  have h1 := List.all_eq_true.1 h _ (hz ho)
  simp only [Bool.and_eq_true] at h1
  obtain ⟨h1, h2⟩ := h1
  refine ⟨fun e he hb => ?_, fun t ht j p hp hd => ?_⟩
  · have := List.all_eq_true.1 h1 e (Array.mem_toList_iff.2 he)
    simp only [hb, Bool.not_true, Bool.false_or, Nat.blt_eq] at this
    exact this
  · have h3 := List.all_eq_true.1 (List.all_eq_true.1 h2 t ht) _ (hz hp)
    simp only [hd, beq_self_eq_true, Bool.not_true, Bool.false_or, Bool.or_eq_true] at h3
    rcases h3 with h3 | h3
    · exact .inl (Nat.eq_of_beq_eq_true h3)
    · cases hb : Nat.blt j k with
      | true =>
        rw [hb] at h3
        rw [Nat.blt_eq] at hb
        exact .inr (.inl ⟨hb, h3⟩)
      | false =>
        rw [hb] at h3
        have hb' : ¬ j < k := fun hh => by rw [show Nat.blt j k = true from by rw [Nat.blt_eq]; exact hh] at hb; cases hb
        by_cases e : j = k
        · exact .inl e
        · exact .inr (.inr ⟨by omega, h3⟩)

theorem mem_names_dst {ops : List Oper} {o : Oper} {t : Tmp} (h : o.dst = some t) : t ∈ namesOf ops o := by simp [namesOf, h]
theorem mem_names_op {ops : List Oper} {o : Oper} {t : Tmp} (h : Operand.tmp t ∈ o.op.operands) : t ∈ namesOf ops o := by
  simp only [namesOf, List.mem_append, List.mem_filterMap]
  exact .inl (.inr ⟨.tmp t, Array.mem_toList_iff.2 h, rfl⟩)
theorem mem_names_guard {ops : Array Oper} {o : Oper} {j : Nat} {want : Bool} {t : Tmp} (h : o.guard = some (j, want)) (hd : (ops[j]?).bind (·.dst) = some t) : t ∈ namesOf ops.toList o := by
  simp only [namesOf, List.mem_append, h]
  refine .inr ?_
  simp [hd]

section
variable {P : Program} {gs : List Nat} {call : CallFn} {ops : Array Oper} {nt base : Nat} {E : Nat → Tr Value} {M : Nat → AHeap} {cls : Nat → Option Class} {val : Nat → Value} {res : Nat → AHeap}

noncomputable def curH (base : Nat) (M : Nat → AHeap) (cls : Nat → Option Class) (res : Nat → AHeap) (n : Nat) (S : Nat → Bool) (i : Nat) : Option AObj := cur (fun k => (M k).get i) (fun k => touch base M cls res k i) S n
noncomputable def curE (ops : Array Oper) (E : Nat → Tr Value) (S : Nat → Bool) (t : Nat) : Option Value := cur (fun k => (E k).get t) (fun k => ∃ o, ops[k]? = some o ∧ o.dst = some t) S ops.size

structure Inv (P : Program) (gs : List Nat) (ops : Array Oper) (nt base : Nat) (E : Nat → Tr Value) (M : Nat → AHeap) (cls : Nat → Option Class) (res : Nat → AHeap) (β0 : Ren) (H0 : AHeap) (w0 : World) (S : Nat → Bool) (a : Act) (w : World) (β : Ren) : Prop where
  rel : RelF β (curH base M cls res ops.size S) (M ops.size).next w
  far : FarF β0 H0 w0 β (curH base M cls res ops.size S) w
  old : ∀ i, i < base → β i = β0 i
  futA : ∀ j, j < ops.size → S j = false → β (base + j) = none
  futB : ∀ j, j < ops.size → S j = false → ∀ i, (M j).next ≤ i → i < (M (j + 1)).next → β i = none
  size : a.tmps.size = nt
  defers : a.defers = []
  env : ∀ t, VR β ((curE ops E S t).getD undef) (a.tmps.getD t undef)
  down : ∀ k, S k = true → ∀ i, (bfAt ops k).testBit i = true → S i = true

theorem putE_other {env : Tr Value} {d : Option Tmp} {v : Value} {t : Nat} (h : d ≠ some t) : (putE env d v).get t = env.get t := by
  cases d with
  | none => rfl
  | some d => simp only [putE, Tr.get_put]; rw [if_neg]; intro e; exact h (by rw [e])
theorem putE_same {env : Tr Value} {v : Value} {t : Nat} : (putE env (some t) v).get t = some v := by simp only [putE, Tr.get_put, if_true]

theorem Trace.offE (ht : Trace P gs call ops nt base 0 E M cls val res) {k : Nat} {t : Nat} (hk : k < ops.size) (hT : ¬ ∃ o, ops[k]? = some o ∧ o.dst = some t) : (E (k + 1)).get t = (E k).get t := by
  have hok : ops[k]? = some (ops[k]'hk) := by simp [hk]
  obtain ⟨_, _, hs⟩ := ht.step k _ (Nat.zero_le _) hok
  have hd : (ops[k]'hk).dst ≠ some t := fun h => hT ⟨_, hok, h⟩
  rcases hs with ⟨_, hE, _⟩ | ⟨_, _, hE, _⟩ <;> rw [hE] <;> exact putE_other hd

/-- with every place's change outside the text's length left out of account -/
theorem cur_off {α : Type} {X : Nat → α} {T : Nat → Prop} {S : Nat → Bool} {n : Nat} (hX : ∀ k, k < n → ¬ T k → X (k + 1) = X k) (k : Nat) (hk : k ≤ n) (h : ∀ j, j < n → T j → (S j = true ↔ j < k)) : cur X T S n = X k := by
  have aux : ∀ (Y : Nat → α) (m : Nat), (∀ j, j ≤ m → Y j = X j) → cur Y T S m = cur X T S m := by
    intro Y m
    induction m with
    | zero => intro hY; exact hY 0 (Nat.le_refl _)
    | succ m ih =>
      intro hY
      simp only [cur]
      rw [ih (fun j hj => hY j (by omega)), hY (m + 1) (Nat.le_refl _)]
  have h1 := aux (fun j => X (min j n)) n (fun j hj => by rw [Nat.min_eq_left hj])
  rw [← h1]
  have h2 := cur_at (X := fun j => X (min j n)) (T := T) (S := S) (fun j hT => by
    by_cases hj : j < n
    · simp only [Nat.min_eq_left (show j + 1 ≤ n by omega), Nat.min_eq_left (show j ≤ n by omega)]
      exact hX j hj hT
    · simp only [Nat.min_eq_right (show n ≤ j + 1 by omega), Nat.min_eq_right (show n ≤ j by omega)]) k n hk h
  rw [h2, Nat.min_eq_left hk]

theorem classOf_alloc {call : CallFn} {ρ : Operand → Value} {o : Oper} {fid : Nat} {H H' : AHeap} {v : Value} {c : Class} (h : ClassSays P call ρ o fid H H' v c) (hl : H.log = []) : (∃ w, c = .other false w) ∨ (H'.log = [] ∧ H'.next = H.next) := by
  cases c with
  | pure => obtain ⟨rfl, _⟩ := h; exact .inr ⟨hl, rfl⟩
  | fresh f => obtain ⟨_, ob, rfl, _⟩ := h; exact .inr ⟨hl, rfl⟩
  | load i => obtain ⟨rfl, _⟩ := h; exact .inr ⟨hl, rfl⟩
  | other q w =>
    cases q with
    | false => exact .inl ⟨w, rfl⟩
    | true => exact .inr (h.2 rfl)

theorem Trace.says (ht : Trace P gs call ops nt base 0 E M cls val res) {k : Nat} {o : Oper} (ho : ops[k]? = some o) {c : Class} (hc : cls k = some c) : ClassSays P call (aEval (E k)) o (base + k) (unlog (M k)) (res k) (val k) c ∧ aStep P call (aEval (E k)) o (base + k) (unlog (M k)) = some (val k, res k) := by
  obtain ⟨_, _, hs⟩ := ht.step k o (Nat.zero_le _) ho
  rcases hs with ⟨_, _, _, hcl⟩ | ⟨_, hs, _, _, hcl⟩
  · rw [hc] at hcl; cases hcl
  · rw [hc] at hcl; cases hcl
    exact ⟨class_spec rfl rfl hs, hs⟩

/-- who turns what was there, or makes more than its one, is of the last class -/
theorem Trace.loud (ht : Trace P gs call ops nt base 0 E M cls val res) {k : Nat} (hk : k < ops.size) {i : Nat} (h : cls k ≠ none ∧ (i ∈ (res k).log ∨ ((M k).next ≤ i ∧ i < (M (k + 1)).next))) : ∃ w, cls k = some (.other false w) ∧ (i ∈ (res k).log → i ∈ w) := by
  have hok : ops[k]? = some (ops[k]'hk) := by simp [hk]
  obtain ⟨c, hc⟩ : ∃ c, cls k = some c := by
    cases hcl : cls k with
    | none => exact absurd hcl h.1
    | some c => exact ⟨c, rfl⟩
  obtain ⟨hsay, hstep⟩ := ht.says hok hc
  rcases classOf_alloc hsay rfl with ⟨w, rfl⟩ | ⟨h1, h2⟩
  · exact ⟨w, hc, fun hi => by rw [hsay.1]; exact hi⟩
  · exfalso
    rcases h.2 with h3 | h3
    · rw [h1] at h3; simp at h3
    · obtain ⟨_, _, hs⟩ := ht.step k _ (Nat.zero_le _) hok
      rcases hs with ⟨_, _, _, hcl⟩ | ⟨_, _, _, hH, _⟩
      · rw [hc] at hcl; cases hcl
      · rw [hH] at h3
        have h4 : (res k).next = (M k).next := h2
        have h5 : (relog (res k) (M k).log).next = (res k).next := rfl
        omega

/-- the number of an operation that makes none stays free -/
theorem Trace.idle (hc : CallSound P gs call) (ht : Trace P gs call ops nt base 0 E M cls val res) (hb : base + ops.size ≤ (M 0).next) (hw : WF (M 0)) (h0 : ∀ j, j < ops.size → (M 0).get (base + j) = none) {k : Nat} (hk : k < ops.size) (hs : (M (k + 1)).get (base + k) = none) : ∀ j, k < j → j ≤ ops.size → (M j).get (base + k) = none
  | 0, h, _ => by omega
  | j + 1, hkj, hj => by
    by_cases e : j = k
    · subst e; exact hs
    · have ih := Trace.idle hc ht hb hw h0 hk hs j (by omega) (by omega)
      have hok : ops[j]? = some (ops[j]'(by omega)) := by simp
      obtain ⟨_, _, hst⟩ := ht.step j _ (Nat.zero_le _) hok
      rcases hst with ⟨_, _, hH, _⟩ | ⟨_, hst, _, hH, _⟩
      · rw [hH]; exact ih
      · have hl := step_log hc (show WF (unlog (M j)) from (Trace.facts hc ht hb hw j (by omega)).1) hst
        have hn := (Trace.facts hc ht hb hw j (by omega)).2.1
        rw [hH]
        exact hl.live (base + k) (show base + k < (M j).next by omega) (by omega) ih

theorem clash_out {q r : Bool} {w w' : List Nat} (h : clash (.other q w) (.other r w') = false) : q = true ∧ r = true := by
  simp only [clash, Bool.not_eq_false', Bool.and_eq_true] at h; exact h
theorem clash_load {i : Nat} {q : Bool} {w : List Nat} : (clash (.other q w) (.load i) = false → i ∉ w) ∧ (clash (.load i) (.other q w) = false → i ∉ w) := by
  constructor <;> (intro h hi; simp only [clash] at h; have := List.any_eq_false.1 h i hi; simp at this)
theorem clash_fresh {i : Nat} {q : Bool} {w : List Nat} : (clash (.other q w) (.fresh i) = false → i ∉ w) ∧ (clash (.fresh i) (.other q w) = false → i ∉ w) := by
  constructor <;> (intro h hi; simp only [clash] at h; have := List.any_eq_false.1 h i hi; simp at this)
end
end Go.Proofs.Ytmflapajjghpmaa
