/- TableMap: going through the table, plain; a guarded operation in a region whose order is drawn; structs told from one another. -/
import Derived.Test.YtmflapajjghpmaaTabMap1
namespace Go.Proofs.Ytmflapajjghpmaa
open Go.RowKit
set_option linter.unusedSimpArgs false
set_option linter.unusedVariables false

/-- the last one of a list that lives, as a key of the table -/
def lastL (l : List Int) (W : Want) : VV := match (liveO l W).getLast? with
  | some k => (3, k - 5)
  | none => (0, 0)
theorem lastL_snoc_dead {l : List Int} {W : Want} {x : Int} (h : alive W x = false) : lastL (l ++ [x]) W = lastL l W := by
  unfold lastL liveO
  rw [List.filter_append, List.filter_cons_of_neg (by simp [h]), List.filter_nil, List.append_nil]
theorem lastL_snoc_live {l : List Int} {W : Want} {x : Int} (h : alive W x = true) : lastL (l ++ [x]) W = (3, x - 5) := by
  unfold lastL liveO
  rw [List.filter_append, List.filter_cons_of_pos (by simp [h]), List.filter_nil, List.getLast?_concat]
theorem tab_at {ord : List Int} {W : Want} {j : Nat} {x : Int} (h : ord[j]? = some x) : (tabOf ord W)[j]? = some (placeOf W x) := by unfold tabOf; rw [List.getElem?_map, h]; rfl
theorem place_dead (W : Want) (x : Int) : isDead (placeOf W x) = !alive W x := by
  unfold isDead placeOf alive
  rw [vOf_dead, Bool.not_not]
theorem from_dead {l : List (VV × VV)} {j : Nat} {p : VV × VV} (hp : l[j]? = some p) (hd : isDead p = true) : nextFrom l j = nextFrom l (j + 1) := by
  have hj := (List.getElem?_eq_some_iff.1 hp).1
  have he : l.drop j = p :: l.drop (j + 1) := by
    rw [List.drop_eq_getElem_cons hj]
    congr 1
    exact (List.getElem?_eq_some_iff.1 hp).2
  unfold nextFrom
  rw [he, firstIx_cons, if_neg (by rw [hd]; decide)]
  cases firstIx (fun p => !isDead p) (l.drop (j + 1)) with
  | none => rfl
  | some r => simp only [Option.map_some]; rw [show j + (r + 1) = j + 1 + r from by omega]
theorem from_live {l : List (VV × VV)} {j : Nat} {p : VV × VV} (hp : l[j]? = some p) (hd : isDead p = false) : nextFrom l j = (p.1, p.2, 0) := by
  have hj := (List.getElem?_eq_some_iff.1 hp).1
  have he : l.drop j = p :: l.drop (j + 1) := by
    rw [List.drop_eq_getElem_cons hj]
    congr 1
    exact (List.getElem?_eq_some_iff.1 hp).2
  unfold nextFrom
  rw [he, firstIx_cons, if_pos (by rw [hd]; rfl)]
  simp only [Nat.add_zero, hp]
theorem from_end {l : List (VV × VV)} : nextFrom l l.length = ((0, 0), (0, 0), 0) := by
  unfold nextFrom
  rw [List.drop_length]; rfl
theorem next_last {ord : List Int} {W : Want} (hnd : ord.Nodup) : ∀ j, j ≤ ord.length → nextL (tabOf ord W) (lastL (ord.take j) W) = nextFrom (tabOf ord W) j
  | 0, _ => rfl
  | j + 1, h => by
    have ih := next_last hnd (W := W) j (by omega)
    obtain ⟨x, hx⟩ : ∃ x, ord[j]? = some x := ⟨_, List.getElem?_eq_getElem (by omega)⟩
    have ht : ord.take (j + 1) = ord.take j ++ [x] := by rw [List.take_add_one, hx]; rfl
    have hp := tab_at (W := W) hx
    cases ha : alive W x with
    | true =>
      rw [ht, lastL_snoc_live ha]
      have hf := kv_at (keys_nodup hnd W) hp
      unfold nextL
      rw [if_neg (show ¬ (3 : Int) = 0 by decide), show ((3 : Int), x - 5) = (placeOf W x).1 from rfl, hf]
    | false =>
      rw [ht, lastL_snoc_dead ha, ih]
      exact from_dead hp (by rw [place_dead, ha]; rfl)
theorem alive_iff (W : Want) (x : Int) : alive W x = true ↔ ¬ (W x).getD 0 = 0 := by unfold alive; simp
theorem get_tab {ord : List Int} {W : Want} (hnd : ord.Nodup) {x : Int} (hx : x ∈ ord) : getL (tabOf ord W) (3, x - 5) = vOf ((W x).getD 0) := by
  obtain ⟨j, hj, rfl⟩ := List.getElem_of_mem hx
  have hp := tab_at (W := W) (List.getElem?_eq_getElem hj)
  rcases kv_find ((3 : Int), ord[j] - 5) (tabOf ord W) 0 0 with ⟨h1, h2⟩ | ⟨r, v, h1, h2, h3⟩
  · have := List.find?_eq_none.1 h2 _ (List.mem_of_getElem? hp)
    simp [placeOf] at this
  · have hf := kv_at (keys_nodup hnd W) hp
    have he : (placeOf W ord[j]).1 = ((3 : Int), ord[j] - 5) := rfl
    rw [he, h2] at hf
    have hr : r = j := by simp at hf; omega
    subst hr
    rw [hp] at h1
    unfold getL
    rw [h3]
    simp only
    have := congrArg Prod.snd (Option.some.inj h1)
    exact this.symm
theorem cutW_nil (W : Want) : cutW [] W = W := by funext x; unfold cutW; rw [if_neg (fun h => by cases h.1)]
theorem cutW_live {l : List Int} {W : Want} {x : Int} (h : alive W x = true) : cutW (l ++ [x]) W = cutW l W := by
  funext y
  unfold cutW
  by_cases e : y = x
  · subst e
    rw [if_neg (fun hh => by rw [h] at hh; exact absurd hh.2 (by decide)), if_neg (fun hh => by rw [h] at hh; exact absurd hh.2 (by decide))]
  · simp [e]
theorem cutW_dead {l : List Int} {W : Want} {x : Int} (h : alive W x = false) : cutW (l ++ [x]) W = delW (cutW l W) x := by
  funext y
  unfold delW cutW
  by_cases e : y = x
  · subst e; simp [h]
  · simp [e]
theorem cutW_at {l : List Int} {W : Want} {x : Int} (h : x ∉ l) : cutW l W x = W x := by unfold cutW; rw [if_neg (fun hh => h hh.1)]
theorem liveO_snoc_live {l : List Int} {W : Want} {x : Int} (h : alive W x = true) : liveO (l ++ [x]) W = liveO l W ++ [x] := by
  unfold liveO; rw [List.filter_append, List.filter_cons_of_pos (by simp [h]), List.filter_nil]
theorem liveO_snoc_dead {l : List Int} {W : Want} {x : Int} (h : alive W x = false) : liveO (l ++ [x]) W = liveO l W := by
  unfold liveO; rw [List.filter_append, List.filter_cons_of_neg (by simp [h]), List.filter_nil, List.append_nil]
theorem not_taken {l : List Int} (h : l.Nodup) {j : Nat} {x : Int} (hx : l[j]? = some x) : x ∉ l.take j := by
  intro hm
  obtain ⟨i, hi, he⟩ := List.getElem_of_mem hm
  have hi2 : i < j := by rw [List.length_take] at hi; omega
  have hj := (List.getElem?_eq_some_iff.1 hx).1
  rw [List.getElem_take] at he
  have := (List.getElem?_inj (i := i) (j := j) (by omega) h).1 (by rw [hx, List.getElem?_eq_getElem (by omega), he])
  omega

/-! ### the machine -/
section
variable {P : Program} {call : CallFn} {all os : List Oper} {bf : List Nat} {base k : Nat} {env : Tr Value} {ob : Tr AObj} {nx : Nat} {lg : List Nat} {Q : Tr Value × AHeap → Prop} {d : Option Tmp} {op : Op} {ty : TypeId} {ps : String} {af : Array Edge} {cs : List (Nat × Class)}
theorem yd_guard {j : Nat} {w : Bool} : Got (rDraw P call all bf base (⟨d, op, ty, ps, af, some (j, w)⟩ :: os) k env ⟨ob, nx, lg⟩ cs) Q = cond (wantedA ⟨d, op, ty, ps, af, some (j, w)⟩ all env)
    (Got (aStep P call (aEval env) ⟨d, op, ty, ps, af, none⟩ (base + k) ⟨ob, nx, []⟩) fun r =>
      calm bf k cs (classOf (aEval env) (base + k) ⟨ob, nx, lg⟩ r.2 op) = true ∧ Got (rDraw P call all bf base os (k + 1) (putE env d r.1) ⟨r.2.objs, r.2.next, relogL lg r.2.log⟩ ((k, classOf (aEval env) (base + k) ⟨ob, nx, lg⟩ r.2 op) :: cs)) Q)
    (Got (rDraw P call all bf base os (k + 1) (putE env d undef) ⟨ob, nx, lg⟩ cs) Q) := by
  simp only [rDraw]
  cases wantedA ⟨d, op, ty, ps, af, some (j, w)⟩ all env with
  | false => rfl
  | true =>
    simp only [cond]
    have e : aStep P call (aEval env) ⟨d, op, ty, ps, af, some (j, w)⟩ (base + k) ⟨ob, nx, []⟩ = aStep P call (aEval env) ⟨d, op, ty, ps, af, none⟩ (base + k) ⟨ob, nx, []⟩ := rfl
    rw [e]
    cases h : aStep P call (aEval env) ⟨d, op, ty, ps, af, none⟩ (base + k) ⟨ob, nx, []⟩ with
    | none => simp only [got_none]
    | some s =>
      obtain ⟨v, H1⟩ := s
      simp only [got_some, calm]
      cases cs.any fun p => !((bf[k]?).getD 0).testBit p.1 && clash p.2 (classOf (aEval env) (base + k) ⟨ob, nx, lg⟩ H1 op) with
      | true => simp [got_none]
      | false => simp [relogL]
end
/-! ### a region whose order is drawn, where nothing is written: one operation at a time -/
def quietC : Class → Bool
  | .pure => true
  | .load _ => true
  | .fresh _ => true
  | .other q w => q && w.isEmpty
theorem quietC_pure : quietC .pure = true := rfl
theorem quietC_load (i : Nat) : quietC (.load i) = true := rfl
theorem quietC_fresh (i : Nat) : quietC (.fresh i) = true := rfl
theorem quietC_other (q : Bool) (w : List Nat) : quietC (.other q w) = (q && w.isEmpty) := rfl
theorem clash_quiet {a b : Class} (ha : quietC a = true) (hb : quietC b = true) : clash a b = false := by
  cases a with
  | pure => exact clash_pure_l b
  | load i => cases b with
    | pure => rfl
    | load j => rfl
    | fresh j => rfl
    | other q w =>
      rw [quietC_other, Bool.and_eq_true, List.isEmpty_iff] at hb
      rw [clash_lo, hb.2]; rfl
  | fresh i => cases b with
    | pure => rfl
    | load j => rfl
    | fresh j => rfl
    | other q w =>
      rw [quietC_other, Bool.and_eq_true, List.isEmpty_iff] at hb
      rw [clash_fo, hb.2]; rfl
  | other q w =>
    rw [quietC_other, Bool.and_eq_true, List.isEmpty_iff] at ha
    cases b with
    | pure => rfl
    | load j => rw [clash_ol, ha.2]; rfl
    | fresh j => rw [clash_of, ha.2]; rfl
    | other q' w' =>
      rw [quietC_other, Bool.and_eq_true] at hb
      rw [clash_oo, ha.1, hb.1]; rfl
theorem calm_quiet {bf : List Nat} {k : Nat} {cs : List (Nat × Class)} {c : Class} (hcs : cs.all (fun p => quietC p.2) = true) (hc : quietC c = true) : calm bf k cs c = true := by
  unfold calm
  rw [Bool.not_eq_true', List.any_eq_false]
  intro p hp
  rw [clash_quiet (List.all_eq_true.1 hcs p hp) hc]; simp
section
variable {P : Program} {call : CallFn} {all os : List Oper} {bf : List Nat} {base k : Nat} {env : Tr Value} {ob ob' : Tr AObj} {nx nx' : Nat} {lg l : List Nat} {Q : Tr Value × AHeap → Prop} {d : Option Tmp} {op : Op} {ty : TypeId} {ps : String} {af : Array Edge} {cs : List (Nat × Class)} {v : Value} {j : Nat} {w b : Bool}
theorem sq_op (hcs : cs.all (fun p => quietC p.2) = true) (h : Got (aStep P call (aEval env) ⟨d, op, ty, ps, af, none⟩ (base + k) ⟨ob, nx, []⟩) fun r => r = (v, ⟨ob', nx', l⟩)) (hq : quietC (classOf (aEval env) (base + k) ⟨ob, nx, lg⟩ ⟨ob', nx', l⟩ op) = true)
    (h2 : ∀ cs' : List (Nat × Class), cs'.all (fun p => quietC p.2) = true → Got (rDraw P call all bf base os (k + 1) (putE env d v) ⟨ob', nx', relogL lg l⟩ cs') Q) : Got (rDraw P call all bf base (⟨d, op, ty, ps, af, none⟩ :: os) k env ⟨ob, nx, lg⟩ cs) Q := by
  rw [yd_op]
  exact h.mono fun a e => by
    subst e
    exact ⟨calm_quiet hcs hq, h2 _ (by rw [List.all_cons, hcs, hq]; rfl)⟩
theorem sq_guard (hw : wantedA ⟨d, op, ty, ps, af, some (j, w)⟩ all env = b) (h : cond b (Got (aStep P call (aEval env) ⟨d, op, ty, ps, af, none⟩ (base + k) ⟨ob, nx, []⟩) fun r =>
      calm bf k cs (classOf (aEval env) (base + k) ⟨ob, nx, lg⟩ r.2 op) = true ∧ Got (rDraw P call all bf base os (k + 1) (putE env d r.1) ⟨r.2.objs, r.2.next, relogL lg r.2.log⟩ ((k, classOf (aEval env) (base + k) ⟨ob, nx, lg⟩ r.2 op) :: cs)) Q)
    (Got (rDraw P call all bf base os (k + 1) (putE env d undef) ⟨ob, nx, lg⟩ cs) Q)) : Got (rDraw P call all bf base (⟨d, op, ty, ps, af, some (j, w)⟩ :: os) k env ⟨ob, nx, lg⟩ cs) Q := by
  rw [yd_guard, hw]; exact h
theorem sq_then {Y : Prop} (hcs : cs.all (fun p => quietC p.2) = true) (h : Got (aStep P call (aEval env) ⟨d, op, ty, ps, af, none⟩ (base + k) ⟨ob, nx, []⟩) fun r => r = (v, ⟨ob', nx', l⟩)) (hq : quietC (classOf (aEval env) (base + k) ⟨ob, nx, lg⟩ ⟨ob', nx', l⟩ op) = true)
    (h2 : ∀ cs' : List (Nat × Class), cs'.all (fun p => quietC p.2) = true → Got (rDraw P call all bf base os (k + 1) (putE env d v) ⟨ob', nx', relogL lg l⟩ cs') Q) :
    cond true (Got (aStep P call (aEval env) ⟨d, op, ty, ps, af, none⟩ (base + k) ⟨ob, nx, []⟩) fun r =>
      calm bf k cs (classOf (aEval env) (base + k) ⟨ob, nx, lg⟩ r.2 op) = true ∧ Got (rDraw P call all bf base os (k + 1) (putE env d r.1) ⟨r.2.objs, r.2.next, relogL lg r.2.log⟩ ((k, classOf (aEval env) (base + k) ⟨ob, nx, lg⟩ r.2 op) :: cs)) Q) Y := h.mono fun a e => by
    subst e
    exact ⟨calm_quiet hcs hq, h2 _ (by rw [List.all_cons, hcs, hq]; rfl)⟩
theorem sq_nil {H : AHeap} (h : Q (env, H)) : Got (rDraw P call all bf base [] k env H cs) Q := by rw [yd_nil]; exact h
theorem sq_region {fuel id m : Nat} {ops : Array Oper} {R : St → Prop} (hm : ops.toList.length = m) (h : ∀ cs : List (Nat × Class), cs.all (fun p => quietC p.2) = true → Got (rDraw P call ops.toList (Region.before ops).toList nx ops.toList 0 env ⟨ob, nx + m, lg⟩ cs) fun r => R (.on, r.1, r.2)) : Got (rCode P call fuel (.region id ops true) env ⟨ob, nx, lg⟩) R := by
  subst hm; rw [y_draw]; exact h [] rfl
end
theorem b_eqlV {cx cy : Bool} (x y : VV) : binV Try.prog .eql 40 cx cy (.agg #[.int .u8 x.1, .int .i64 x.2]) (.agg #[.int .u8 y.1, .int .i64 y.2]) = some (.bool (decide (x = y))) := by
  refine binV_of (fun p q => by cases p <;> cases q <;> kernel_rfl) ?_ rfl rfl rfl
  show qval Try.prog (do pure (Value.bool (← Op.equalIn (9998 + 2) 40 (vv x) (vv y)))) = _
  simp only [qval_bind, vv_eq 9998 x y, Option.bind_some]; rfl
theorem b_neqV {cx cy : Bool} (x y : VV) : binV Try.prog .neq 40 cx cy (.agg #[.int .u8 x.1, .int .i64 x.2]) (.agg #[.int .u8 y.1, .int .i64 y.2]) = some (.bool (!decide (x = y))) := by
  refine binV_of (fun p q => by cases p <;> cases q <;> kernel_rfl) ?_ rfl rfl rfl
  show qval Try.prog (do pure (Value.bool (!(← Op.equalIn (9998 + 2) 40 (vv x) (vv y))))) = _
  simp only [qval_bind, vv_eq 9998 x y, Option.bind_some]; rfl
theorem b_eqlV4 {cx cy : Bool} (a b c d : Int) : binV Try.prog .eql 40 cx cy (.agg #[.int .u8 a, .int .i64 b]) (.agg #[.int .u8 c, .int .i64 d]) = some (.bool (decide ((a, b) = (c, d)))) := b_eqlV (a, b) (c, d)
theorem b_neqV4 {cx cy : Bool} (a b c d : Int) : binV Try.prog .neq 40 cx cy (.agg #[.int .u8 a, .int .i64 b]) (.agg #[.int .u8 c, .int .i64 d]) = some (.bool (!decide ((a, b) = (c, d)))) := b_neqV (a, b) (c, d)
end Go.Proofs.Ytmflapajjghpmaa
