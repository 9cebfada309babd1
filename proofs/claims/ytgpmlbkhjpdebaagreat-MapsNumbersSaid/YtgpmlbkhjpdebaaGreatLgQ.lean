/- A region that draws its order, all of whose operations but the last only read: it ends as in the text's order, inside any fence. -/
import Derived.OrdersIn
import Derived.TacticsIn
import Derived.OwnWalkIn
set_option linter.unusedSimpArgs false
set_option linter.unusedVariables false
namespace Go.Proofs.YtgpmlbkhjpdebaaGreat
open Go.RowKit

def putAll (l : List (Nat × Value)) (a : Act) : Act := l.foldl (fun a p => a.put (some p.1) p.2) a
theorem putAll_defers : ∀ (l : List (Nat × Value)) (a : Act), (putAll l a).defers = a.defers
  | [], a => rfl
  | p :: l, a => by rw [show putAll (p :: l) a = putAll l (a.put (some p.1) p.2) from rfl, putAll_defers l]; rfl
theorem putAll_size : ∀ (l : List (Nat × Value)) (a : Act), (putAll l a).tmps.size = a.tmps.size
  | [], a => rfl
  | p :: l, a => by rw [show putAll (p :: l) a = putAll l (a.put (some p.1) p.2) from rfl, putAll_size l]; simp [Act.put]
theorem putAll_out : ∀ (l : List (Nat × Value)) (a : Act) (t : Nat), t ∉ l.map (·.1) → (putAll l a).tmps.getD t undef = a.tmps.getD t undef
  | [], a, t, _ => rfl
  | p :: l, a, t, h => by
    simp only [List.map_cons, List.mem_cons, not_or] at h
    rw [show putAll (p :: l) a = putAll l (a.put (some p.1) p.2) from rfl, putAll_out l _ t h.2]
    simp only [Act.put, Array.getD_eq_getD_getElem?]
    rw [Array.getElem?_setIfInBounds_ne (Ne.symm h.1)]
/-- is operation j ahead of this one -/
def isAhead (o : Oper) (j : Nat) : Bool := o.after.any fun e => Nat.beq e.on j && Region.binds .any e
def tmpOf : Operand → Option Nat
  | .tmp t => some t
  | _ => none
/-- operation i may be read at any time: it writes D i, and all that it reads is ahead -/
def quietOne (D : List Nat) (o : Oper) (i : Nat) : Bool :=
  o.guard.isNone && (o.dst == some (D.getD i 0)) && (match o.op with | .defer _ => false | .select .. => false | _ => true) &&
  o.after.all (fun e => !Region.binds .any e || Nat.blt e.on i) &&
  o.op.operands.all fun x => match tmpOf x with
    | some t => (List.range D.length).all fun j => !(Nat.beq (D.getD j 0) t) || isAhead o j
    | none => true
def quietChk (ops : List Oper) (D : List Nat) : Bool :=
  (List.range D.length).all (fun i => match ops[i]? with | some o => quietOne D o i | none => false) &&
  (match ops[D.length]? with | some o => o.guard.isNone && (List.range D.length).all (fun j => isAhead o j) && o.after.all (fun e => !Region.binds .any e || Nat.blt e.on D.length) | none => false)
theorem ahead_ex {o : Oper} {j : Nat} (h : isAhead o j = true) : ∃ e ∈ o.after, e.on = j ∧ Region.binds .any e = true := by
  simp only [isAhead, Array.any_eq_true, Bool.and_eq_true] at h
  obtain ⟨i, hi, h1, h2⟩ := h
  exact ⟨o.after[i], Array.getElem_mem hi, Nat.eq_of_beq_eq_true h1, h2⟩

section
variable {F : Fence} {n : Nat} {P : Program} {ops : Array Oper} {Q : Exit → Act → World → Prop} {a : Act} {w : World} {l : List (Nat × Value)}
/-- where the listed operations have been carried out -/
structure MixSt (l : List (Nat × Value)) (a : Act) (D : List Nat) (listed : Array Bool) (a' : Act) : Prop where
  defers : a'.defers = a.defers
  size : a'.tmps.size = a.tmps.size
  on : ∀ j, j < D.length → listed.getD j false = true → a'.tmps.getD (D.getD j 0) undef = (putAll l a).tmps.getD (D.getD j 0) undef
  off : ∀ t, (∀ j, j < D.length → listed.getD j false = true → D.getD j 0 ≠ t) → a'.tmps.getD t undef = a.tmps.getD t undef
theorem first_off (L : Nat → Bool) : ∀ m, L m = false → ∃ i, i ≤ m ∧ L i = false ∧ ∀ j, j < i → L j = true
  | 0, h => ⟨0, Nat.le_refl _, h, fun j hj => absurd hj (Nat.not_lt_zero _)⟩
  | m + 1, h => by
    by_cases hx : ∃ k, k ≤ m ∧ L k = false
    · obtain ⟨k, hk, hf⟩ := hx
      obtain ⟨i, h1, h2, h3⟩ := first_off L k hf
      exact ⟨i, by omega, h2, h3⟩
    · refine ⟨m + 1, Nat.le_refl _, h, fun j hj => ?_⟩
      cases hc : L j with
      | true => rfl
      | false => exact absurd ⟨j, by omega, hc⟩ hx
termination_by m => m
theorem nodup_getD {D : List Nat} (h : D.Nodup) {i j : Nat} (hi : i < D.length) (hj : j < D.length) (e : D.getD i 0 = D.getD j 0) : i = j := by
  rw [List.getD_eq_getElem?_getD, List.getD_eq_getElem?_getD, List.getElem?_eq_getElem hi, List.getElem?_eq_getElem hj] at e
  exact (List.getElem_inj h).1 e
theorem act_ext {x y : Act} (h1 : x.defers = y.defers) (h2 : x.tmps.size = y.tmps.size) (h3 : ∀ t, x.tmps.getD t undef = y.tmps.getD t undef) : x = y := by
  obtain ⟨xt, xd⟩ := x
  obtain ⟨yt, yd⟩ := y
  simp only at h1 h2 h3
  subst h1
  congr 1
  apply Array.ext h2
  intro i hi hj
  have := h3 i
  rw [Array.getD_eq_getD_getElem?, Array.getD_eq_getD_getElem?, Array.getElem?_eq_getElem hi, Array.getElem?_eq_getElem hj] at this
  exact this
theorem getD_put (x : Act) (d t : Nat) (v : Value) : (x.put (some d) v).tmps.getD t undef = if d = t then (if d < x.tmps.size then v else undef) else x.tmps.getD t undef := by
  simp only [Act.put, Array.getD_eq_getD_getElem?]
  by_cases h : d = t
  · subst h
    rw [if_pos rfl]
    by_cases h2 : d < x.tmps.size
    · rw [if_pos h2, Array.getElem?_setIfInBounds_self_of_lt h2]; rfl
    · rw [if_neg h2, Array.getElem?_eq_none (by simpa using h2)]; rfl
  · rw [if_neg h, Array.getElem?_setIfInBounds_ne h]
theorem getD_size {x : Act} {t : Nat} (h : ¬ t < x.tmps.size) : x.tmps.getD t undef = undef := by
  rw [Array.getD_eq_getD_getElem?, Array.getElem?_eq_none (by omega)]; rfl
theorem quiet_any (hsz : ops.size = l.length + 1) (hD : (l.map (·.1)).Nodup) (chk : quietChk ops.toList (l.map (·.1)) = true)
    (hr : ∀ i o, i < l.length → ops[i]? = some o → o.about P w (putAll l a).eval = none ∧ (execOp (putAll l a).eval o).run P w = .ok (.value ((putAll l a).tmps.getD ((l.map (·.1)).getD i 0) undef)) w)
    (hl : ∀ o, ops[l.length]? = some o → o.wpIn F n P (putAll l a) w (fun a' w' => Q .normal a' w') Q) :
    ∀ (fuel : Nat) (listed : Array Bool) (a' : Act) (U : List Nat), listed.size = ops.size → U.length ≤ fuel → (∀ j, j < ops.size → listed.getD j true = false → j ∈ U) → listed.getD l.length true = false → MixSt l a (l.map (·.1)) listed a' → wpAnyIn F n P .any ops Q fuel listed a' w := by
  obtain ⟨D, hDe⟩ : ∃ D, l.map (·.1) = D := ⟨_, rfl⟩
  rw [hDe] at hD chk hr ⊢
  have hDl : D.length = l.length := by rw [← hDe]; simp
  simp only [quietChk, Bool.and_eq_true, List.all_eq_true, List.mem_range, hDl] at chk
  obtain ⟨c1, c2⟩ := chk
  have q1 : ∀ i o, i < l.length → ops[i]? = some o → quietOne D o i = true := fun i o hi ho => by
    have := c1 i hi
    rw [Array.getElem?_toList, ho] at this
    exact this
  have q2 : ∀ o, ops[l.length]? = some o → o.guard = none ∧ (∀ j, j < l.length → isAhead o j = true) ∧ ∀ e ∈ o.after, Region.binds .any e = true → e.on < l.length := fun o ho => by
    rw [Array.getElem?_toList, ho] at c2
    simp only [Bool.and_eq_true, List.all_eq_true, List.mem_range, Option.isNone_iff_eq_none, Array.all_eq_true] at c2
    refine ⟨c2.1.1, c2.1.2, fun e he hb => ?_⟩
    obtain ⟨k, hk, rfl⟩ := Array.mem_iff_getElem.1 he
    have := c2.2 k hk
    rw [hb] at this
    simpa using this
  have q3 : ∀ i o, i < l.length → ops[i]? = some o → o.guard = none ∧ o.dst = some (D.getD i 0) ∧ (∀ c, o.op ≠ .defer c) ∧ (∀ cs b, o.op ≠ .select cs b) ∧ (∀ e ∈ o.after, Region.binds .any e = true → e.on < i) ∧ ∀ t, Operand.tmp t ∈ o.op.operands → ∀ j, j < l.length → D.getD j 0 = t → isAhead o j = true := fun i o hi ho => by
    have := q1 i o hi ho
    simp only [quietOne, Bool.and_eq_true, Option.isNone_iff_eq_none, beq_iff_eq, Array.all_eq_true] at this
    obtain ⟨⟨⟨⟨h1, h2⟩, h3⟩, h4⟩, h5⟩ := this
    refine ⟨h1, h2, (fun c hc => by rw [hc] at h3; cases h3), (fun cs b hc => by rw [hc] at h3; cases h3), fun e he hb => ?_, fun t ht j hj hd => ?_⟩
    · obtain ⟨k, hk, rfl⟩ := Array.mem_iff_getElem.1 he
      have := h4 k hk
      rw [hb] at this
      simpa using this
    · obtain ⟨k, hk, hke⟩ := Array.mem_iff_getElem.1 ht
      have := h5 k hk
      rw [hke] at this
      simp only [tmpOf, List.all_eq_true, List.mem_range, hDl] at this
      have := this j hj
      rw [hd] at this
      simpa using this
  have hbefore : ∀ i o, i < ops.size → ops[i]? = some o → ∀ e ∈ o.after, Region.binds .any e = true → e.on < i := fun i o hi ho e he hb => by
    rcases Nat.lt_or_ge i l.length with h | h
    · exact (q3 i o h ho).2.2.2.2.1 e he hb
    · obtain rfl : i = l.length := by omega
      exact (q2 o ho).2.2 e he hb
  intro fuel
  induction fuel with
  | zero =>
    intro listed a' U hls hU hUm hm hst
    have := hUm l.length (by omega) hm
    have : U = [] := List.length_eq_zero_iff.1 (by omega)
    subst this
    contradiction
  | succ fuel ih =>
    intro listed a' U hls hU hUm hm hst
    refine ⟨fun hno => ?_, fun i hi => ?_⟩
    · obtain ⟨i, h1, h2, h3⟩ := first_off (fun j => listed.getD j true) l.length hm
      have hi : i < ops.size := by omega
      have : i ∈ Region.ready .any ops listed := by
        rw [mem_ready]
        refine ⟨h2, ops[i], Array.getElem?_eq_getElem hi, fun e he hb => ?_⟩
        have hlt := hbefore i _ hi (Array.getElem?_eq_getElem hi) e he hb
        have := h3 e.on hlt
        rw [Array.getD_eq_getD_getElem?, Array.getElem?_eq_getElem (by omega)] at this ⊢
        exact this
      rw [hno] at this
      cases this
    · obtain ⟨hun, o, ho, hall⟩ := mem_ready.1 hi
      have hio : i < ops.size := (Array.getElem?_eq_some_iff.1 ho).1
      have hli : ∀ j, isAhead o j = true → listed.getD j false = true := fun j hj => by
        obtain ⟨e, he, rfl, hb⟩ := ahead_ex hj
        exact hall e he hb
      rcases Nat.lt_or_ge i l.length with hlt | hge
      · obtain ⟨g1, g2, g3, g4, g5, g6⟩ := q3 i o hlt ho
        have hev : ∀ x ∈ o.op.operands, a'.eval x = (putAll l a).eval x := fun x hx => by
          cases x with
          | tmp t =>
            show a'.tmps.getD t undef = (putAll l a).tmps.getD t undef
            by_cases hex : ∃ j, j < D.length ∧ D.getD j 0 = t
            · obtain ⟨j, hj, rfl⟩ := hex
              exact hst.on j hj (hli j (g6 _ hx j (by omega) rfl))
            · rw [hst.off t (fun j hj _ e => hex ⟨j, hj, e⟩), putAll_out]
              rw [hDe]
              intro hmem
              obtain ⟨j, hj, rfl⟩ := List.mem_iff_getElem.1 hmem
              exact hex ⟨j, hj, by rw [List.getD_eq_getElem?_getD, List.getElem?_eq_getElem hj]; rfl⟩
          | _ => rfl
        obtain ⟨r1, r2⟩ := hr i o hlt ho
        unfold wpOpIn
        rw [ho]
        simp only [Region.wanted, g1, if_true]
        unfold Oper.wpIn
        rw [about_congr o w hev, r1, Oper.semAt_plain F _ o g3, execOp_congr o g4 hev, r2, Oper.uponIn_value, g2]
        refine ⟨(fun f hf => by cases hf), ih _ _ (U.erase i) (by simpa using hls) ?_ ?_ ?_ ⟨?_, ?_, ?_, ?_⟩⟩
        · rw [List.length_erase_of_mem (hUm i hio hun)]; omega
        · intro j hj hf
          have hji : j ≠ i := fun e => by
            subst e
            rw [Array.getD_eq_getD_getElem?, Array.getElem?_setIfInBounds_self_of_lt (by omega)] at hf
            cases hf
          rw [Array.getD_eq_getD_getElem?, Array.getElem?_setIfInBounds_ne (Ne.symm hji), ← Array.getD_eq_getD_getElem?] at hf
          exact (List.mem_erase_of_ne hji).2 (hUm j hj hf)
        · rw [Array.getD_eq_getD_getElem?, Array.getElem?_setIfInBounds_ne (by omega), ← Array.getD_eq_getD_getElem?]; exact hm
        · exact hst.defers
        · show (a'.put (some _) _).tmps.size = _
          simp only [Act.put, Array.size_setIfInBounds]; exact hst.size
        · intro j hj hl2
          rw [getD_put]
          by_cases hji : j = i
          · subst hji
            rw [if_pos rfl]
            by_cases h2 : D.getD j 0 < a'.tmps.size
            · rw [if_pos h2]
            · rw [if_neg h2, getD_size (by rw [putAll_size, ← hst.size]; exact h2)]
          · rw [if_neg (fun e => hji (nodup_getD hD hj (by omega) e.symm))]
            rw [Array.getD_eq_getD_getElem?, Array.getElem?_setIfInBounds_ne (Ne.symm hji), ← Array.getD_eq_getD_getElem?] at hl2
            exact hst.on j hj hl2
        · intro t ht
          have h1 : D.getD i 0 ≠ t := ht i (by omega) (by rw [Array.getD_eq_getD_getElem?, Array.getElem?_setIfInBounds_self_of_lt (by omega)]; rfl)
          rw [getD_put, if_neg h1]
          refine hst.off t fun j hj hl2 => ?_
          by_cases hji : j = i
          · subst hji; exact h1
          · exact ht j hj (by rw [Array.getD_eq_getD_getElem?, Array.getElem?_setIfInBounds_ne (Ne.symm hji), ← Array.getD_eq_getD_getElem?]; exact hl2)
      · obtain rfl : i = l.length := by omega
        obtain ⟨g1, g2, _⟩ := q2 o ho
        have hfin : a' = putAll l a := by
          refine act_ext (by rw [hst.defers, putAll_defers]) (by rw [hst.size, putAll_size]) fun t => ?_
          by_cases hex : ∃ j, j < D.length ∧ D.getD j 0 = t
          · obtain ⟨j, hj, rfl⟩ := hex
            exact hst.on j hj (hli j (g2 j (by omega)))
          · rw [hst.off t (fun j hj _ e => hex ⟨j, hj, e⟩), putAll_out]
            rw [hDe]
            intro hmem
            obtain ⟨j, hj, rfl⟩ := List.mem_iff_getElem.1 hmem
            exact hex ⟨j, hj, by rw [List.getD_eq_getElem?_getD, List.getElem?_eq_getElem hj]; rfl⟩
        subst hfin
        unfold wpOpIn
        rw [ho]
        simp only [Region.wanted, g1, if_true]
        refine Oper.wpIn_mono (fun a2 w2 hq => ?_) (hl o ho)
        refine wpAnyIn_done ?_ hq fuel
        refine List.eq_nil_iff_forall_not_mem.2 fun k hk => ?_
        obtain ⟨hku, ok, hok, _⟩ := mem_ready.1 hk
        have hks : k < ops.size := (Array.getElem?_eq_some_iff.1 hok).1
        by_cases hkm : k = l.length
        · subst hkm
          rw [Array.getD_eq_getD_getElem?, Array.getElem?_setIfInBounds_self_of_lt (by omega)] at hku
          cases hku
        · rw [Array.getD_eq_getD_getElem?, Array.getElem?_setIfInBounds_ne (Ne.symm hkm)] at hku
          have := hli k (g2 k (by omega))
          rw [Array.getD_eq_getD_getElem?, Array.getElem?_eq_getElem (by omega)] at this
          rw [Array.getElem?_eq_getElem (by omega)] at hku
          simp only [Option.getD_some] at this hku
          rw [this] at hku
          cases hku
theorem quiet_region {id : Nat} (hm : P.follows .mixedOrders = true) (l : List (Nat × Value)) (hsz : ops.size = l.length + 1) (hD : (l.map (·.1)).Nodup) (chk : quietChk ops.toList (l.map (·.1)) = true)
    (hr : ∀ i o, i < l.length → ops[i]? = some o → o.about P { w with drawn := w.drawn + 1 } (putAll l a).eval = none ∧ (execOp (putAll l a).eval o).run P { w with drawn := w.drawn + 1 } = .ok (.value ((putAll l a).tmps.getD ((l.map (·.1)).getD i 0) undef)) { w with drawn := w.drawn + 1 })
    (hl : ∀ o, ops[l.length]? = some o → o.wpIn F n P (putAll l a) { w with drawn := w.drawn + 1 } (fun a' w' => Q .normal a' w') Q) : (Code.region id ops true).wpIn F n P Q a w := by
  refine wpIn_region_any hm (quiet_any hsz hD chk hr hl ops.size _ a (List.range ops.size) (by simp) (by simp) (fun j hj _ => List.mem_range.2 hj) ?_ ⟨rfl, rfl, fun j hj h => ?_, fun t _ => rfl⟩)
  · rw [Array.getD_eq_getD_getElem?, Array.getElem?_replicate, if_pos (by omega)]; rfl
  · rw [Array.getD_eq_getD_getElem?, Array.getElem?_replicate] at h
    split at h <;> cases h
end
/-- the operations' answers, at the frame behind them all -/
def ReadsAll (P : Program) (w : World) (x : Act) : List Oper → List Nat → Prop
  | o :: os, d :: ds => (o.about P w x.eval = none ∧ (execOp x.eval o).run P w = .ok (.value (x.tmps.getD d undef)) w) ∧ ReadsAll P w x os ds
  | _, [] => True
  | [], _ :: _ => False
theorem readsAll_at {P : Program} {w : World} {x : Act} (os : List Oper) : ∀ (ds : List Nat), ReadsAll P w x os ds → ∀ i o, i < ds.length → os[i]? = some o → o.about P w x.eval = none ∧ (execOp x.eval o).run P w = .ok (.value (x.tmps.getD (ds.getD i 0) undef)) w := by
  induction os with
  | nil => intro ds h i o hi ho; simp at ho
  | cons o os ih =>
    intro ds h i o' hi ho
    cases ds with
    | nil => simp at hi
    | cons d ds =>
      simp only [ReadsAll] at h
      cases i with
      | zero => simp only [List.getElem?_cons_zero, Option.some.injEq] at ho; subst ho; simpa using h.1
      | succ i => simpa using ih ds h.2 i o' (by simpa using hi) (by simpa using ho)
theorem quiet_draw {F : Fence} {n : Nat} {P : Program} {ops : List Oper} {Q : Exit → Act → World → Prop} {a : Act} {w : World} {id : Nat} (hm : P.follows .mixedOrders = true) (D : List Nat) (l : List (Nat × Value)) (hDl : l.map (·.1) = D) (hsz : ops.length = D.length + 1) (hD : D.Nodup) (chk : quietChk ops D = true)
    (hr : ∀ w1, { w with drawn := w.drawn + 1 } = w1 → ReadsAll P w1 (putAll l a) ops D) (hl : ∀ o w1, { w with drawn := w.drawn + 1 } = w1 → ops[D.length]? = some o → o.wpIn F n P (putAll l a) w1 (fun a' w' => Q .normal a' w') Q) : (Code.region id ops.toArray true).wpIn F n P Q a w := by
  subst hDl
  exact quiet_region hm l (by simpa using hsz) hD chk (fun i o hi ho => readsAll_at _ _ (hr _ rfl) i o (by simpa using hi) (by simpa using ho)) fun o ho => hl o _ rfl (by simpa using ho)
end Go.Proofs.YtgpmlbkhjpdebaaGreat
