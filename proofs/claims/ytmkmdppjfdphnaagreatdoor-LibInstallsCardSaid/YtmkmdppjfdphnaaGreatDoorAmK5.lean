/- The machine made ready for the kernel: regions, code, calls; and that its answers are the model's. -/
import Derived.Test.YtmkmdppjfdphnaaGreatDoorAmK4
set_option linter.unusedSimpArgs false
set_option linter.unusedVariables false
namespace Go.Proofs.YtmkmdppjfdphnaaGreatDoor
open Go.RowKit

inductive KE where
  | fail
  | ok (e : E8) (H : AHeap)
def KE.opt : KE → Option (E8 × AHeap)
  | .fail => none
  | .ok e H => some (e, H)
structure KRB where
  r : CallFn → Nat → E8 → AHeap → KE
structure KDB where
  r : CallFn → Nat → E8 → AHeap → List (Nat × Class) → KE
/-- what is put into the frame -/
noncomputable def kPutO (d : Option Tmp) : KP E8 := match d with
  | none => ⟨fun _ e => e⟩
  | some t => kPut t
def dOk (d : Option Tmp) : Bool := match d with
  | none => true
  | some t => Nat.ble (Nat.succ t) 512
theorem FR.putO {k : E8} {e : Tr Value} (h : FR k e) {d : Option Tmp} (hd : dOk d = true) (v : Value) : FR ((kPutO d).p v k) (putE e d v) := by
  cases d with
  | none => exact h
  | some t => exact h.put (Nat.le_of_ble_eq_true hd) v
noncomputable def kWant (t : KG E8 Value) (want : Bool) (e : E8) : Bool := @Option.rec Bool (fun _ => Bool) false (fun b => @Bool.rec (fun _ => Bool) (@Bool.rec (fun _ => Bool) true false want) want b) (vBool (t.g e))
theorem kWant_eq {o : Oper} {all : List Oper} {j : Nat} {want : Bool} {t : Nat} (hg : o.guard = some (j, want)) (hj : (all[j]?).bind (·.dst) = some t) {k : E8} {e : Tr Value} (hR : FR k e) : wantedA o all e = kWant (kTmp t) want k := by
  unfold wantedA kWant
  simp only [hg, hj]
  rw [hR t]
  cases e.get t with
  | none => rfl
  | some v =>
    cases v with
    | bool b => cases b <;> cases want <;> rfl
    | _ => rfl
/-- the operations of a region, one after the other -/
noncomputable def kThen (b : KB) (k : Nat) (d : KP E8) (rest : KRB) : CallFn → Nat → E8 → AHeap → KE := fun call base e H =>
  @KV.rec (fun _ => KE) .fail (fun v H' => rest.r call base (d.p v e) H') (b.f call e (Nat.add base k) H)
noncomputable def kThenM (x : KG E8 Value) (d : KP E8) (rest : KRB) : CallFn → Nat → E8 → AHeap → KE := fun call base e H => rest.r call base (d.p (x.g e) e) H
noncomputable def kSkipR (d : KP E8) (rest : KRB) : CallFn → Nat → E8 → AHeap → KE := fun call base e H => rest.r call base (d.p undef e) H
noncomputable def kIfR (t : KG E8 Value) (want : Bool) (a b : KRB) : CallFn → Nat → E8 → AHeap → KE := fun call base e H => @Bool.rec (fun _ => KE) (b.r call base e H) (a.r call base e H) (kWant t want e)
noncomputable def readyStep (P : Program) (ok : Nat → Bool) (o : Oper) (k : Nat) (rest : KRB) : KRB := match o.op with
  | .move x | .assign x => ⟨kThenM (kOpd x) (kPutO o.dst) rest⟩
  | _ => ⟨kThen (ready P ok o) k (kPutO o.dst) rest⟩
noncomputable def readyOps (P : Program) (ok : Nat → Bool) (all : List Oper) : List Oper → Nat → KRB
  | [], _ => ⟨fun _ _ e H => .ok e H⟩
  | o :: os, k => cond (dOk o.dst) (match o.guard with
    | none => readyStep P ok o k (readyOps P ok all os (k + 1))
    | some (j, w) => match (all[j]?).bind (·.dst) with
      | some t => ⟨kIfR (kTmp t) w (readyStep P ok o k (readyOps P ok all os (k + 1))) ⟨kSkipR (kPutO o.dst) (readyOps P ok all os (k + 1))⟩⟩
      | none => ⟨kSkipR (kPutO o.dst) (readyOps P ok all os (k + 1))⟩) ⟨fun _ _ _ _ => .fail⟩
section
variable {P : Program} {ok : Nat → Bool} {call : CallFn}
theorem readyStep_ok (hcode : ∀ f, ok f = true → codeOf P f = true) {all os : List Oper} {o : Oper} {k base : Nat} {k8 : E8} {e : Tr Value} (hR : FR k8 e) (hd : dOk o.dst = true) {H : AHeap} {rest : KRB} {r : E8 × AHeap} (ih : ∀ k8 e H, FR k8 e → (rest.r call base k8 H).opt = some r → ∃ e', rOps P call all base os (k + 1) e H = some (e', r.2) ∧ FR r.1 e')
    (h : ((readyStep P ok o k rest).r call base k8 H).opt = some r) : ∃ e', (match aStep P call (aEval e) o (base + k) H with
      | some (v, H') => rOps P call all base os (k + 1) (putE e o.dst v) H'
      | none => none) = some (e', r.2) ∧ FR r.1 e' := by
  have gen : (kThen (ready P ok o) k (kPutO o.dst) rest call base k8 H).opt = some r → ∃ e', (match aStep P call (aEval e) o (base + k) H with
      | some (v, H') => rOps P call all base os (k + 1) (putE e o.dst v) H'
      | none => none) = some (e', r.2) ∧ FR r.1 e' := fun h => by
    unfold kThen at h
    cases hv : (ready P ok o).f call k8 (Nat.add base k) H with
    | fail => simp only [hv] at h; cases h
    | ok v H' =>
      simp only [hv] at h
      have := ready_ok hcode o call k8 e (base + k) H (v, H') hR (by show ((ready P ok o).f call k8 (Nat.add base k) H).opt = _; rw [hv]; rfl)
      rw [this]
      exact ih _ _ _ (hR.putO hd v) h
  have mov : ∀ x, (o.op = .move x ∨ o.op = .assign x) → (kThenM (kOpd x) (kPutO o.dst) rest call base k8 H).opt = some r → ∃ e', (match aStep P call (aEval e) o (base + k) H with
      | some (v, H') => rOps P call all base os (k + 1) (putE e o.dst v) H'
      | none => none) = some (e', r.2) ∧ FR r.1 e' := fun x ho h => by
    have : aStep P call (aEval e) o (base + k) H = some (aEval e x, H) := by rcases ho with ho | ho <;> simp only [aStep, aSimple, ho]
    rw [this]
    refine ih _ _ _ (hR.putO hd (aEval e x)) ?_
    rw [← hR.arg x]; exact h
  unfold readyStep at h
  split at h
  · exact mov _ (.inl ‹_›) h
  · exact mov _ (.inr ‹_›) h
  · exact gen h
theorem readyOps_ok (hcode : ∀ f, ok f = true → codeOf P f = true) {all : List Oper} {base : Nat} : ∀ (os : List Oper) (k : Nat) (k8 : E8) (e : Tr Value) (H : AHeap) (r : E8 × AHeap), FR k8 e → ((readyOps P ok all os k).r call base k8 H).opt = some r → ∃ e', rOps P call all base os k e H = some (e', r.2) ∧ FR r.1 e'
  | [], _, k8, e, H, r, hR, h => by cases h; exact ⟨e, rfl, hR⟩
  | o :: os, k, k8, e, H, r, hR, h => by
    have ih := fun k8 e H hR h => readyOps_ok hcode (all := all) (base := base) os (k + 1) k8 e H r hR h
    unfold readyOps at h
    simp only [rOps]
    cases hd : dOk o.dst with
    | false => rw [hd] at h; cases h
    | true =>
      rw [hd] at h
      simp only [cond] at h
      split at h
      · rename_i hg
        rw [show wantedA o all e = true by simp only [wantedA, hg]]
        exact readyStep_ok hcode hR hd ih h
      · rename_i j w hg
        split at h
        · rename_i t hj
          change (@Bool.rec (fun _ => KE) _ _ (kWant (kTmp t) w k8)).opt = some r at h
          rw [kWant_eq hg hj hR]
          cases hw : kWant (kTmp t) w k8 with
          | true => rw [hw] at h; exact readyStep_ok hcode hR hd ih h
          | false => rw [hw] at h; exact ih _ _ _ (hR.putO hd undef) h
        · rename_i hj
          rw [show wantedA o all e = false by simp only [wantedA, hg, hj]]
          exact ih _ _ _ (hR.putO hd undef) h
end

/-! ### regions that draw -/
noncomputable def krelog (lg l : List Nat) : List Nat := @List.rec Nat (fun _ => List Nat → List Nat) (fun lg => lg) (fun i _ ih lg => ih (knote i lg)) l lg
theorem krelog_eq : ∀ (l lg : List Nat), krelog lg l = l.foldl (fun l i => noteId i l) lg
  | [], _ => rfl
  | i :: l, lg => by
    show krelog (knote i lg) l = _
    rw [krelog_eq l, knote_eq]; rfl
def sPure : Op → Bool
  | .move _ | .assign _ | .pick .. | .build .. | .nilCheck _ | .field .. | .extract .. | .index .. | .makeFunc .. | .makeInterface .. | .fieldAddr .. | .indexAddr .. | .binOp .. | .unOp .. => true
  | _ => false
theorem sPure_class {o : Op} (h : sPure o = true) (ρ : Operand → Value) (fid : Nat) (H H' : AHeap) : zY ρ fid H H' o = .pure := by cases o <;> first | rfl | cases h
def isPureC : Class → Bool
  | .pure => true
  | _ => false
def unpure (cs : List (Nat × Class)) : List (Nat × Class) := cs.filter fun p => !isPureC p.2
theorem any_unpure (b : Nat) (c : Class) : ∀ cs : List (Nat × Class), ((unpure cs).any fun p => !b.testBit p.1 && clash p.2 c) = cs.any fun p => !b.testBit p.1 && clash p.2 c
  | [] => rfl
  | p :: cs => by
    have ih := any_unpure b c cs
    obtain ⟨j, d⟩ := p
    cases d with
    | pure =>
      rw [show unpure ((j, Class.pure) :: cs) = unpure cs from rfl, ih, List.any_cons, show clash Class.pure c = false by cases c <;> rfl, Bool.and_false, Bool.false_or]
    | _ => rw [show ∀ d, isPureC d = false → unpure ((j, d) :: cs) = (j, d) :: unpure cs from fun d hd => by unfold unpure; rw [List.filter_cons]; simp [hd]] <;> first | rfl | (rw [List.any_cons, List.any_cons, ih])
theorem pure_any (b : Nat) : ∀ cs : List (Nat × Class), (cs.any fun p => !b.testBit p.1 && clash p.2 .pure) = false
  | [] => rfl
  | p :: cs => by rw [List.any_cons, pure_any b cs, show clash p.2 .pure = false by cases p.2 <;> rfl, Bool.and_false, Bool.or_self]
/-- does an operation clash with one ahead that need not be ahead? -/
noncomputable def kClash (m : Nat) (c : Class) (cs : List (Nat × Class)) : Bool := @List.rec (Nat × Class) (fun _ => Bool) false (fun p _ ih => @Bool.rec (fun _ => Bool) ih (@Bool.rec (fun _ => Bool) true ih (m.testBit p.1)) (clash p.2 c)) cs
theorem kClash_eq (m : Nat) (c : Class) : ∀ cs, kClash m c cs = cs.any fun p => !m.testBit p.1 && clash p.2 c
  | [] => rfl
  | p :: cs => by
    show @Bool.rec (fun _ => Bool) (kClash m c cs) (@Bool.rec (fun _ => Bool) true (kClash m c cs) (m.testBit p.1)) (clash p.2 c) = _
    rw [kClash_eq m c cs, List.any_cons]
    cases m.testBit p.1 <;> cases clash p.2 c <;> rfl
noncomputable def kThenP (b : KB) (k : Nat) (d : KP E8) (rest : KDB) : CallFn → Nat → E8 → AHeap → List (Nat × Class) → KE := fun call base e H cs =>
  @KV.rec (fun _ => KE) .fail (fun v H' => rest.r call base (d.p v e) ⟨H'.objs, H'.next, krelog H.log H'.log⟩ cs) (b.f call e (Nat.add base k) ⟨H.objs, H.next, []⟩)
noncomputable def kThenMD (x : KG E8 Value) (d : KP E8) (rest : KDB) : CallFn → Nat → E8 → AHeap → List (Nat × Class) → KE := fun call base e H cs => rest.r call base (d.p (x.g e) e) H cs
noncomputable def kPush (k : Nat) (c : Class) (cs : List (Nat × Class)) : List (Nat × Class) := @Class.rec (fun _ => List (Nat × Class)) cs (fun i => (k, .fresh i) :: cs) (fun i => (k, .load i) :: cs) (fun q w => (k, .other q w) :: cs) c
theorem kPush_eq (k : Nat) (c : Class) (cs : List (Nat × Class)) : kPush k c (unpure cs) = unpure ((k, c) :: cs) := by cases c <;> rfl
/-- an operation that may clash -/
noncomputable def kThenD (b : KB) (cl : E8 → Nat → AHeap → AHeap → Class) (m k : Nat) (d : KP E8) (rest : KDB) : CallFn → Nat → E8 → AHeap → List (Nat × Class) → KE := fun call base e H cs =>
  @KV.rec (fun _ => KE) .fail (fun v H' => @Bool.rec (fun _ => KE) (rest.r call base (d.p v e) ⟨H'.objs, H'.next, krelog H.log H'.log⟩ (kPush k (cl e (Nat.add base k) H H') cs)) .fail (kClash m (cl e (Nat.add base k) H H') cs)) (b.f call e (Nat.add base k) ⟨H.objs, H.next, []⟩)
noncomputable def kSkipD (d : KP E8) (rest : KDB) : CallFn → Nat → E8 → AHeap → List (Nat × Class) → KE := fun call base e H cs => rest.r call base (d.p undef e) H cs
noncomputable def kIfD (t : KG E8 Value) (want : Bool) (a b : KDB) : CallFn → Nat → E8 → AHeap → List (Nat × Class) → KE := fun call base e H cs => @Bool.rec (fun _ => KE) (b.r call base e H cs) (a.r call base e H cs) (kWant t want e)
/-- an operation's class -/
noncomputable def kClLoad (x : KG E8 Value) : E8 → Nat → AHeap → AHeap → Class := fun e _ _ _ => @Option.rec Addr (fun _ => Class) (.other false []) (fun a => .load a.block) (vPtr (x.g e))
noncomputable def kClFresh : E8 → Nat → AHeap → AHeap → Class := fun _ fid _ _ => .fresh fid
noncomputable def kClOther : E8 → Nat → AHeap → AHeap → Class := fun _ _ H H' => .other (@Bool.rec (fun _ => Bool) false (@List.rec Nat (fun _ => Bool) true (fun _ _ _ => false) H'.log) (Nat.beq H.next H'.next)) H'.log
noncomputable def kClGen (o : Op) : E8 → Nat → AHeap → AHeap → Class := fun e fid H H' => zY (fun x => (kOpd x).g e) fid H H' o
structure KCl where
  c : E8 → Nat → AHeap → AHeap → Class
noncomputable def readyClass (o : Op) : KCl := match o with
  | .load _ x => ⟨kClLoad (kOpd x)⟩
  | .alloc _ | .box .. | .buildSlice .. | .makeMap .. | .makeSlice .. => ⟨kClFresh⟩
  | .store .. => ⟨kClOther⟩
  | .call { callee := .value _, .. } => ⟨kClOther⟩
  | o => ⟨kClGen o⟩
theorem readyClass_eq {k8 : E8} {e : Tr Value} (hR : FR k8 e) (o : Op) (fid : Nat) (H H' : AHeap) : (readyClass o).c k8 fid H H' = zY (aEval e) fid H H' o := by
  have hgen : kClGen o k8 fid H H' = zY (aEval e) fid H H' o := by
    unfold kClGen
    rw [show (fun x => (kOpd x).g k8) = aEval e from funext fun x => hR.arg x]
  have hoth : kClOther k8 fid H H' = .other (Nat.beq H.next H'.next && H'.log.isEmpty) H'.log := by
    unfold kClOther
    cases H'.log <;> cases Nat.beq H.next H'.next <;> rfl
  unfold readyClass
  split
  · rename_i x
    simp only [kClLoad, zY, hR.arg]
    generalize aEval e x = v
    cases v with
    | pointer a => cases a <;> rfl
    | _ => rfl
  · rfl
  · rfl
  · rfl
  · rfl
  · rfl
  · exact hoth
  · exact hoth
  · exact hgen
noncomputable def readyOne (P : Program) (ok : Nat → Bool) (o : Oper) (m k : Nat) (rest : KDB) : KDB := match o.op with
  | .move x | .assign x => ⟨kThenMD (kOpd x) (kPutO o.dst) rest⟩
  | _ => cond (sPure o.op) ⟨kThenP (ready P ok o) k (kPutO o.dst) rest⟩ ⟨kThenD (ready P ok o) (readyClass o.op).c m k (kPutO o.dst) rest⟩
noncomputable def readyDraw (P : Program) (ok : Nat → Bool) (all : List Oper) (bf : List Nat) : List Oper → Nat → KDB
  | [], _ => ⟨fun _ _ e H _ => .ok e H⟩
  | o :: os, k => cond (dOk o.dst) (match o.guard with
    | none => readyOne P ok o ((bf[k]?).getD 0) k (readyDraw P ok all bf os (k + 1))
    | some (j, w) => match (all[j]?).bind (·.dst) with
      | some t => ⟨kIfD (kTmp t) w (readyOne P ok o ((bf[k]?).getD 0) k (readyDraw P ok all bf os (k + 1))) ⟨kSkipD (kPutO o.dst) (readyDraw P ok all bf os (k + 1))⟩⟩
      | none => ⟨kSkipD (kPutO o.dst) (readyDraw P ok all bf os (k + 1))⟩) ⟨fun _ _ _ _ _ => .fail⟩
section
variable {P : Program} {ok : Nat → Bool} {call : CallFn}
theorem readyOne_ok (hcode : ∀ f, ok f = true → codeOf P f = true) {all os : List Oper} {bf : List Nat} {o : Oper} {k base : Nat} {k8 : E8} {e : Tr Value} (hR : FR k8 e) (hd : dOk o.dst = true) {H : AHeap} {cs : List (Nat × Class)} {rest : KDB} {r : E8 × AHeap}
    (ih : ∀ k8 e H cs, FR k8 e → (rest.r call base k8 H (unpure cs)).opt = some r → ∃ e', rDraw P call all bf base os (k + 1) e H cs = some (e', r.2) ∧ FR r.1 e')
    (h : ((readyOne P ok o ((bf[k]?).getD 0) k rest).r call base k8 H (unpure cs)).opt = some r) : ∃ e', (match aStep P call (aEval e) o (base + k) { H with log := [] } with
      | some (v, H') =>
        let c := zY (aEval e) (base + k) H H' o.op
        let b := (bf[k]?).getD 0
        cond (cs.any fun p => !b.testBit p.1 && clash p.2 c) none (rDraw P call all bf base os (k + 1) (putE e o.dst v) { H' with log := H'.log.foldl (fun l i => noteId i l) H.log } ((k, c) :: cs))
      | none => none) = some (e', r.2) ∧ FR r.1 e' := by
  have mov : ∀ x, (o.op = .move x ∨ o.op = .assign x) → (kThenMD (kOpd x) (kPutO o.dst) rest call base k8 H (unpure cs)).opt = some r → ∃ e', (match aStep P call (aEval e) o (base + k) { H with log := [] } with
      | some (v, H') =>
        let c := zY (aEval e) (base + k) H H' o.op
        let b := (bf[k]?).getD 0
        cond (cs.any fun p => !b.testBit p.1 && clash p.2 c) none (rDraw P call all bf base os (k + 1) (putE e o.dst v) { H' with log := H'.log.foldl (fun l i => noteId i l) H.log } ((k, c) :: cs))
      | none => none) = some (e', r.2) ∧ FR r.1 e' := fun x ho h => by
    have h1 : aStep P call (aEval e) o (base + k) { H with log := [] } = some (aEval e x, { H with log := [] }) := by rcases ho with ho | ho <;> simp only [aStep, aSimple, ho]
    have h2 : zY (aEval e) (base + k) H { H with log := [] } o.op = .pure := by rcases ho with ho | ho <;> (rw [ho]; rfl)
    rw [h1]
    simp only [h2, pure_any, cond]
    refine ih _ _ _ _ (hR.putO hd (aEval e x)) ?_
    rw [← hR.arg x]; exact h
  have hstep : ∀ v H', (ready P ok o).f call k8 (Nat.add base k) ⟨H.objs, H.next, []⟩ = .ok v H' → aStep P call (aEval e) o (base + k) { H with log := [] } = some (v, H') := fun v H' hv =>
    ready_ok hcode o call k8 e (base + k) _ (v, H') hR (by show ((ready P ok o).f call k8 (Nat.add base k) ⟨H.objs, H.next, []⟩).opt = _; rw [hv]; rfl)
  unfold readyOne at h
  split at h
  · exact mov _ (.inl ‹_›) h
  · exact mov _ (.inr ‹_›) h
  · cases hp : sPure o.op with
    | true =>
      rw [hp] at h
      simp only [cond, kThenP] at h
      cases hv : (ready P ok o).f call k8 (Nat.add base k) ⟨H.objs, H.next, []⟩ with
      | fail => simp only [hv] at h; cases h
      | ok v H' =>
        simp only [hv] at h
        rw [hstep v H' hv]
        simp only [sPure_class hp, pure_any, cond]
        rw [krelog_eq] at h
        exact ih _ _ _ _ (hR.putO hd v) h
    | false =>
      rw [hp] at h
      simp only [cond, kThenD] at h
      cases hv : (ready P ok o).f call k8 (Nat.add base k) ⟨H.objs, H.next, []⟩ with
      | fail => simp only [hv] at h; cases h
      | ok v H' =>
        simp only [hv] at h
        rw [hstep v H' hv]
        rw [readyClass_eq hR, kClash_eq, any_unpure, krelog_eq, kPush_eq, show Nat.add base k = base + k from rfl] at h
        simp only
        cases hc : cs.any fun p => !((bf[k]?).getD 0).testBit p.1 && clash p.2 (zY (aEval e) (base + k) H H' o.op) with
        | true => rw [hc] at h; cases h
        | false =>
          rw [hc] at h
          simp only [cond] at h ⊢
          exact ih _ _ _ _ (hR.putO hd v) h
theorem readyDraw_ok (hcode : ∀ f, ok f = true → codeOf P f = true) {all : List Oper} {bf : List Nat} {base : Nat} : ∀ (os : List Oper) (k : Nat) (k8 : E8) (e : Tr Value) (H : AHeap) (cs : List (Nat × Class)) (r : E8 × AHeap), FR k8 e → ((readyDraw P ok all bf os k).r call base k8 H (unpure cs)).opt = some r → ∃ e', rDraw P call all bf base os k e H cs = some (e', r.2) ∧ FR r.1 e'
  | [], _, k8, e, H, cs, r, hR, h => by cases h; exact ⟨e, rfl, hR⟩
  | o :: os, k, k8, e, H, cs, r, hR, h => by
    have ih := fun k8 e H cs hR h => readyDraw_ok hcode (all := all) (bf := bf) (base := base) os (k + 1) k8 e H cs r hR h
    unfold readyDraw at h
    simp only [rDraw]
    cases hd : dOk o.dst with
    | false => rw [hd] at h; cases h
    | true =>
      rw [hd] at h
      simp only [cond] at h
      split at h
      · rename_i hg
        rw [show wantedA o all e = true by simp only [wantedA, hg]]
        exact readyOne_ok hcode hR hd ih h
      · rename_i j w hg
        split at h
        · rename_i t hj
          change (@Bool.rec (fun _ => KE) _ _ (kWant (kTmp t) w k8)).opt = some r at h
          rw [kWant_eq hg hj hR]
          cases hw : kWant (kTmp t) w k8 with
          | true => rw [hw] at h; exact readyOne_ok hcode hR hd ih h
          | false => rw [hw] at h; exact ih _ _ _ _ (hR.putO hd undef) h
        · rename_i hj
          rw [show wantedA o all e = false by simp only [wantedA, hg, hj]]
          exact ih _ _ _ _ (hR.putO hd undef) h
end

/-! ### code -/
abbrev KC := CallFn → Nat → E8 → AHeap → KW
structure KCB where
  c : KC
noncomputable def kReg (n : Nat) (r : KRB) : KC := fun call _ e H => kforce (Nat.add H.next n) fun m => @KE.rec (fun _ => KW) .fail (fun e' H' => .on e' H') (r.r call H.next e ⟨H.objs, m, H.log⟩)
noncomputable def kRegD (n : Nat) (r : KDB) : KC := fun call _ e H => kforce (Nat.add H.next n) fun m => @KE.rec (fun _ => KW) .fail (fun e' H' => .on e' H') (r.r call H.next e ⟨H.objs, m, H.log⟩ [])
noncomputable def kSeq (a b : KCB) : KC := fun call n e H => @KW.rec (fun _ => KW) .fail (fun e' H' => b.c call n e' H') (fun i e' H' => .out i e' H') (fun e' H' => .back e' H') (a.c call n e H)
noncomputable def kIfC (c : KG E8 Value) (a b : KCB) : KC := fun call n e H => kBool (c.g e) .fail fun t => @Bool.rec (fun _ => KW) (b.c call n e H) (a.c call n e H) t
noncomputable def kBlock (id : Nat) (a : KCB) : KC := fun call n e H => @KW.rec (fun _ => KW) .fail (fun e' H' => .on e' H') (fun i e' H' => @Bool.rec (fun _ => KW) (.out i e' H') (.on e' H') (Nat.beq i id)) (fun e' H' => .back e' H') (a.c call n e H)
/-- a name at the head: the kernel's stack is given back there -/
noncomputable def kGo (f : E8 → AHeap → KW) (e : E8) (H : AHeap) : KW := f e H
noncomputable def kLoop (a : KCB) : KC := fun call n e H => @Nat.rec (fun _ => E8 → AHeap → KW) (fun _ _ => .fail) (fun _ ih e H => @KW.rec (fun _ => KW) .fail (fun e' H' => kGo ih e' H') (fun i e' H' => .out i e' H') (fun e' H' => .back e' H') (a.c call n e H)) n e H
noncomputable def kScope (a : KCB) : KC := fun call n e H => @KW.rec (fun _ => KW) .fail (fun e' H' => .on e' H') (fun _ _ _ => .fail) (fun e' H' => .back e' H') (a.c call n e H)
noncomputable def readyCode (P : Program) (ok : Nat → Bool) : Code → KCB
  | .skip => ⟨fun _ _ e H => .on e H⟩
  | .region _ ops draw => cond draw ⟨kRegD ops.toList.length (readyDraw P ok ops.toList (Region.before ops).toList ops.toList 0)⟩ ⟨kReg ops.toList.length (readyOps P ok ops.toList ops.toList 0)⟩
  | .seq a b => ⟨kSeq (readyCode P ok a) (readyCode P ok b)⟩
  | .cond c a b => ⟨kIfC (kOpd c) (readyCode P ok a) (readyCode P ok b)⟩
  | .block id c => ⟨kBlock id (readyCode P ok c)⟩
  | .loop c => ⟨kLoop (readyCode P ok c)⟩
  | .exit id => ⟨fun _ _ e H => .out id e H⟩
  | .label _ => ⟨fun _ _ e H => .on e H⟩
  | .ret => ⟨fun _ _ e H => .back e H⟩
  | .scope c => ⟨kScope (readyCode P ok c)⟩
  | _ => ⟨fun _ _ _ _ => .fail⟩
theorem kE_on {r : KE} {q : Way × E8 × AHeap} (h : (@KE.rec (fun _ => KW) .fail (fun e' H' => .on e' H') r).opt = some q) : ∃ e H, r.opt = some (e, H) ∧ q = (.on, e, H) := by
  cases r with
  | fail => cases h
  | ok e H => cases h; exact ⟨e, H, rfl, rfl⟩
section
variable {P : Program} {ok : Nat → Bool} {call : CallFn} {n : Nat}
theorem readyCode_ok (hcode : ∀ f, ok f = true → codeOf P f = true) : ∀ (c : Code) (k8 : E8) (e : Tr Value) (H : AHeap) (r : Way × E8 × AHeap), FR k8 e → ((readyCode P ok c).c call n k8 H).opt = some r → ∃ e', rCode P call n c e H = some (r.1, e', r.2.2) ∧ FR r.2.1 e'
  | .skip, k8, e, H, r, hR, h => by cases h; exact ⟨e, rfl, hR⟩
  | .exit _, k8, e, H, r, hR, h => by cases h; exact ⟨e, rfl, hR⟩
  | .label _, k8, e, H, r, hR, h => by cases h; exact ⟨e, rfl, hR⟩
  | .ret, k8, e, H, r, hR, h => by cases h; exact ⟨e, rfl, hR⟩
  | .region _ ops draw, k8, e, H, r, hR, h => by
    unfold readyCode at h
    simp only [rCode]
    cases draw with
    | false =>
      simp only [cond, kReg, kforce_eq] at h ⊢
      obtain ⟨e1, H1, h1, rfl⟩ := kE_on h
      obtain ⟨e', h2, h3⟩ := readyOps_ok hcode _ _ _ e _ _ hR h1
      rw [show Nat.add H.next ops.toList.length = H.next + ops.toList.length from rfl] at h2
      exact ⟨e', by rw [h2]; rfl, h3⟩
    | true =>
      simp only [cond, kRegD, kforce_eq] at h ⊢
      obtain ⟨e1, H1, h1, rfl⟩ := kE_on h
      obtain ⟨e', h2, h3⟩ := readyDraw_ok hcode _ _ _ e _ [] _ hR h1
      rw [show Nat.add H.next ops.toList.length = H.next + ops.toList.length from rfl] at h2
      exact ⟨e', by rw [h2]; rfl, h3⟩
  | .seq a b, k8, e, H, r, hR, h => by
    simp only [readyCode, kSeq] at h
    simp only [rCode]
    cases hv : (readyCode P ok a).c call n k8 H with
    | fail => simp only [hv] at h; cases h
    | on e1 H1 =>
      simp only [hv] at h
      obtain ⟨e', h1, h2⟩ := readyCode_ok hcode a k8 e H (.on, e1, H1) hR (by rw [hv]; rfl)
      rw [h1]; exact readyCode_ok hcode b e1 e' H1 r h2 h
    | out i e1 H1 =>
      simp only [hv] at h
      obtain ⟨e', h1, h2⟩ := readyCode_ok hcode a k8 e H (.out i, e1, H1) hR (by rw [hv]; rfl)
      rw [h1]; cases h; exact ⟨e', rfl, h2⟩
    | back e1 H1 =>
      simp only [hv] at h
      obtain ⟨e', h1, h2⟩ := readyCode_ok hcode a k8 e H (.back, e1, H1) hR (by rw [hv]; rfl)
      rw [h1]; cases h; exact ⟨e', rfl, h2⟩
  | .cond c a b, k8, e, H, r, hR, h => by
    simp only [readyCode, kIfC, hR.arg] at h
    simp only [rCode]
    rcases kBool_or (aEval e c) with ⟨t, ht, hk⟩ | ⟨_, hk⟩
    · rw [hk] at h
      simp only [ht]
      cases t with
      | true => exact readyCode_ok hcode a k8 e H r hR h
      | false => exact readyCode_ok hcode b k8 e H r hR h
    · rw [hk] at h; cases h
  | .block id c, k8, e, H, r, hR, h => by
    simp only [readyCode, kBlock] at h
    simp only [rCode]
    cases hv : (readyCode P ok c).c call n k8 H with
    | fail => simp only [hv] at h; cases h
    | on e1 H1 =>
      simp only [hv] at h
      obtain ⟨e', h1, h2⟩ := readyCode_ok hcode c k8 e H (.on, e1, H1) hR (by rw [hv]; rfl)
      rw [h1]; cases h; exact ⟨e', rfl, h2⟩
    | out i e1 H1 =>
      simp only [hv] at h
      obtain ⟨e', h1, h2⟩ := readyCode_ok hcode c k8 e H (.out i, e1, H1) hR (by rw [hv]; rfl)
      rw [h1]
      simp only
      cases hb : Nat.beq i id with
      | true => rw [hb] at h; cases h; exact ⟨e', rfl, h2⟩
      | false => rw [hb] at h; cases h; exact ⟨e', rfl, h2⟩
    | back e1 H1 =>
      simp only [hv] at h
      obtain ⟨e', h1, h2⟩ := readyCode_ok hcode c k8 e H (.back, e1, H1) hR (by rw [hv]; rfl)
      rw [h1]; cases h; exact ⟨e', rfl, h2⟩
  | .loop c, k8, e, H, r, hR, h => by
    simp only [readyCode] at h
    simp only [rCode]
    have key : ∀ (m : Nat) (k8 : E8) (e : Tr Value) (H : AHeap), FR k8 e → (@Nat.rec (fun _ => E8 → AHeap → KW) (fun _ _ => .fail) (fun _ ih e H => @KW.rec (fun _ => KW) .fail (fun e' H' => kGo ih e' H') (fun i e' H' => .out i e' H') (fun e' H' => .back e' H') ((readyCode P ok c).c call n e H)) m k8 H).opt = some r → ∃ e', loopN (rCode P call n c) Way.isOn m e H = some (r.1, e', r.2.2) ∧ FR r.2.1 e' := by
      intro m
      induction m with
      | zero => intro k8 e H hR h; cases h
      | succ m ih =>
        intro k8 e H hR h
        simp only [loopN]
        cases hv : (readyCode P ok c).c call n k8 H with
        | fail => simp only [hv] at h; cases h
        | on e1 H1 =>
          simp only [hv] at h
          obtain ⟨e', h1, h2⟩ := readyCode_ok hcode c k8 e H (.on, e1, H1) hR (by rw [hv]; rfl)
          rw [h1]; exact ih _ _ _ h2 h
        | out i e1 H1 =>
          simp only [hv] at h
          obtain ⟨e', h1, h2⟩ := readyCode_ok hcode c k8 e H (.out i, e1, H1) hR (by rw [hv]; rfl)
          rw [h1]; cases h; exact ⟨e', rfl, h2⟩
        | back e1 H1 =>
          simp only [hv] at h
          obtain ⟨e', h1, h2⟩ := readyCode_ok hcode c k8 e H (.back, e1, H1) hR (by rw [hv]; rfl)
          rw [h1]; cases h; exact ⟨e', rfl, h2⟩
    exact key n k8 e H hR h
  | .scope c, k8, e, H, r, hR, h => by
    simp only [readyCode, kScope] at h
    simp only [rCode]
    cases hv : (readyCode P ok c).c call n k8 H with
    | fail => simp only [hv] at h; cases h
    | on e1 H1 =>
      simp only [hv] at h
      obtain ⟨e', h1, h2⟩ := readyCode_ok hcode c k8 e H (.on, e1, H1) hR (by rw [hv]; rfl)
      rw [h1]; cases h; exact ⟨e', rfl, h2⟩
    | out i e1 H1 => simp only [hv] at h; cases h
    | back e1 H1 =>
      simp only [hv] at h
      obtain ⟨e', h1, h2⟩ := readyCode_ok hcode c k8 e H (.back, e1, H1) hR (by rw [hv]; rfl)
      rw [h1]; cases h; exact ⟨e', rfl, h2⟩
  | .rangeFunc .., _, _, _, _, _, h => by simp only [readyCode] at h; cases h
  | .goto _, _, _, _, _, _, h => by simp only [readyCode] at h; cases h
  | .refuse _, _, _, _, _, _, h => by simp only [readyCode] at h; cases h
end

/-! ### calls -/
structure KFn where
  c : KCB
  nt : Nat
  rs : List ResultVar
noncomputable def readyFn (P : Program) (ok : Nat → Bool) (f : FuncId) : Option KFn := cond (ok f) (match kFun P f with
  | some fn => match fn.body with
    | some c => cond (Nat.ble fn.ntmps 512) (some ⟨readyCode P ok c, fn.ntmps, fn.results.toList⟩) none
    | none => none
  | none => none) none
noncomputable def kArgs (l : List Value) : Nat → E8 → E8 := @List.rec Value (fun _ => Nat → E8 → E8) (fun _ e => e) (fun v _ ih k e => ih (Nat.succ k) ((kPut k).p v e)) l
theorem kArgs_eq : ∀ (l : List Value) (k : Nat) (k8 : E8) (e : Tr Value), FR k8 e → k + l.length ≤ 512 → FR (kArgs l k k8) (qG l k e)
  | [], _, _, _, hR, _ => hR
  | v :: l, k, k8, e, hR, hl => kArgs_eq l (k + 1) _ _ (hR.put (by simp only [List.length_cons] at hl; omega) v) (by simp only [List.length_cons] at hl; omega)
/-- results that lie in the frame -/
noncomputable def kRes (P : Program) (e : E8) (H : AHeap) (rs : List ResultVar) : Option (List Value) := @List.rec ResultVar (fun _ => Option (List Value)) (some []) (fun r t ih => @Option.rec (List Value) (fun _ => Option (List Value)) none (fun vs => @ResultVar.rec (fun _ => Option (List Value)) (fun t => some ((kTmp t).g e :: vs))
  (fun a ty => (aLoad P ty ((kTmp a).g e) H).map fun v => v :: vs) r) ih) rs
theorem kRes_eq (P : Program) {k8 : E8} {e : Tr Value} (hR : FR k8 e) (H : AHeap) : ∀ rs, kRes P k8 H rs = aResults P e H rs
  | [] => rfl
  | .tmp t :: rs => by
    show @Option.rec (List Value) (fun _ => Option (List Value)) none (fun vs => some ((kTmp t).g k8 :: vs)) (kRes P k8 H rs) = _
    rw [kRes_eq P hR H rs, hR t]
    simp only [aResults]
    cases aResults P e H rs <;> rfl
  | .cell a t :: rs => by
    show @Option.rec (List Value) (fun _ => Option (List Value)) none (fun vs => (aLoad P t ((kTmp a).g k8) H).map fun v => v :: vs) (kRes P k8 H rs) = _
    rw [kRes_eq P hR H rs, hR a]
    simp only [aResults]
    cases aResults P e H rs with
    | none => cases aLoad P t ((e.get a).getD undef) H <;> rfl
    | some vs => cases aLoad P t ((e.get a).getD undef) H <;> rfl
noncomputable def kOne (l : List Value) : Value := @List.rec Value (fun _ => Value) (.tuple ⟨[]⟩) (fun a t _ => @List.rec Value (fun _ => Value) a (fun b u _ => .tuple ⟨a :: b :: u⟩) t) l
theorem kOne_eq (l : List Value) : kOne l = oneOf l := by
  cases l with
  | nil => rfl
  | cons a t => cases t <;> rfl
noncomputable def kallge (n : Nat) (l : List Nat) : Bool := @List.rec Nat (fun _ => Bool) true (fun i _ ih => @Bool.rec (fun _ => Bool) false ih (Nat.ble n i)) l
theorem kallge_eq (n : Nat) : ∀ l, kallge n l = l.all (fun i => Nat.ble n i)
  | [] => rfl
  | i :: l => by
    show @Bool.rec (fun _ => Bool) false (kallge n l) (Nat.ble n i) = _
    rw [kallge_eq n l, List.all_cons]
    cases Nat.ble n i <;> rfl
noncomputable def kfilt (n : Nat) (l : List Nat) : List Nat := @List.rec Nat (fun _ => List Nat) [] (fun i _ ih => @Bool.rec (fun _ => List Nat) ih (i :: ih) (Nat.ble (Nat.succ i) n)) l
theorem kfilt_eq (n : Nat) : ∀ l, kfilt n l = l.filter fun i => Nat.blt i n
  | [] => rfl
  | i :: l => by
    show @Bool.rec (fun _ => List Nat) (kfilt n l) (i :: kfilt n l) (Nat.ble (Nat.succ i) n) = _
    rw [kfilt_eq n l, List.filter_cons]
    show _ = if Nat.ble (Nat.succ i) n = true then _ else _
    cases Nat.ble (Nat.succ i) n <;> rfl
noncomputable def kleave (H : AHeap) (v : Value) (H' : AHeap) : Value × AHeap := @Bool.rec (fun _ => Value × AHeap) (v, ⟨H'.objs, H'.next, krelog H.log (kfilt H.next H'.log)⟩) (@Bool.rec (fun _ => Value × AHeap) (v, ⟨H'.objs, H'.next, krelog H.log (kfilt H.next H'.log)⟩) (v, H) (lowV H.next v)) (kallge H.next H'.log)
theorem kleave_eq (H : AHeap) (v : Value) (H' : AHeap) : kleave H v H' = leave H v H' := by
  unfold kleave leave
  rw [kallge_eq, kfilt_eq, krelog_eq]
  cases H'.log.all fun i => Nat.ble H.next i <;> cases lowV H.next v <;> rfl
noncomputable def kOut1 (P : Program) (rs : List ResultVar) (H : AHeap) (e : E8) (H' : AHeap) : Option (Value × AHeap) := @Option.rec (List Value) (fun _ => Option (Value × AHeap)) none (fun vs => some (kleave H (kOne vs) H')) (kRes P e H' rs)
noncomputable def kOut (P : Program) (rs : List ResultVar) (H : AHeap) (r : KW) : Option (Value × AHeap) := @KW.rec (fun _ => Option (Value × AHeap)) none (fun e H' => kOut1 P rs H e H') (fun _ _ _ => none) (fun e H' => kOut1 P rs H e H') r
theorem kOut1_eq (P : Program) (rs : List ResultVar) (H : AHeap) {k8 : E8} {e : Tr Value} (hR : FR k8 e) (H' : AHeap) : kOut1 P rs H k8 H' = (aResults P e H' rs).map fun vs => leave H (oneOf vs) H' := by
  unfold kOut1
  rw [kRes_eq P hR]
  cases aResults P e H' rs with
  | none => rfl
  | some vs => show some (kleave H (kOne vs) H') = _; rw [kOne_eq, kleave_eq]; rfl
noncomputable def kEnter (P : Program) (F : KFn) (call : CallFn) (n : Nat) (args : List Value) (H : AHeap) : Option (Value × AHeap) := @Bool.rec (fun _ => Option (Value × AHeap)) none (kOut P F.rs H (F.c.c call n (kArgs args Nat.zero kU3) ⟨H.objs, H.next, []⟩)) (Nat.ble (klen args) F.nt)
noncomputable def kRun (P : Program) (O : Helps) (ok : Nat → Bool) (n : Nat) : CallFn := @Nat.rec (fun _ => CallFn) (fun _ _ _ => none) (fun n ih f args H => @Option.rec (List Value → AHeap → Option (Value × AHeap)) (fun _ => Option (Value × AHeap)) (@Option.rec KFn (fun _ => Option (Value × AHeap)) none (fun F => kEnter P F ih n args H) (readyFn P ok f)) (fun g => g args H) (O f)) n
theorem kRun_sound {P : Program} {gs : List Nat} {O : Helps} {ok : Nat → Bool} (ho : CallSound P gs (helpFn O)) (hm : P.follows .mixedOrders = true) (hok : ∀ f, ok f = true → chkFn P gs f = true) (hcode : ∀ f, ok f = true → codeOf P f = true) : ∀ n, CallSound P gs (kRun P O ok n)
  | 0 => fun f args H v H' h _ => by cases h
  | n + 1 => fun f args H v H' h hwf => by
    change @Option.rec (List Value → AHeap → Option (Value × AHeap)) (fun _ => Option (Value × AHeap)) (@Option.rec KFn (fun _ => Option (Value × AHeap)) none (fun F => kEnter P F (kRun P O ok n) n args H) (readyFn P ok f)) (fun g => g args H) (O f) = _ at h
    cases hg : O f with
    | some g =>
      rw [hg] at h
      exact ho f args H v H' (by simp only [helpFn, hg]; exact h) hwf
    | none =>
      rw [hg] at h
      cases hf : readyFn P ok f with
      | none => rw [hf] at h; cases h
      | some F =>
        rw [hf] at h
        change kEnter P F (kRun P O ok n) n args H = _ at h
        unfold readyFn at hf
        cases hk : ok f with
        | false => rw [hk] at hf; cases hf
        | true =>
          rw [hk] at hf
          simp only [cond] at hf
          refine fn_sound (kRun_sound ho hm hok hcode n) hm n f args H v H' ?_ hwf
          rw [← qStep_eq (hok f hk)]
          unfold qStep
          rw [kFun_eq] at hf
          cases hfn : P.funcs[f]? with
          | none => simp only [hfn] at hf; cases hf
          | some fn =>
            simp only [hfn] at hf ⊢
            cases hc : fn.body with
            | none => simp only [hc] at hf; cases hf
            | some c =>
              simp only [hc] at hf ⊢
              cases hnt : Nat.ble fn.ntmps 512 with
              | false => rw [hnt] at hf; cases hf
              | true =>
                rw [hnt] at hf
                cases hf
                unfold kEnter at h
                simp only [klen_eq] at h
                cases hb : Nat.ble args.length fn.ntmps with
                | false => rw [hb] at h; cases h
                | true =>
                  rw [hb] at h
                  simp only [cond]
                  have hR : FR (kArgs args Nat.zero kU3) (qG args 0 .nil) := kArgs_eq args 0 kU3 .nil FR.nil (by have := Nat.le_of_ble_eq_true hb; have := Nat.le_of_ble_eq_true hnt; omega)
                  cases hv : (readyCode P ok c).c (kRun P O ok n) n (kArgs args Nat.zero kU3) ⟨H.objs, H.next, []⟩ with
                  | fail => simp only [hv, kOut] at h; cases h
                  | on e1 H1 =>
                    simp only [hv, kOut] at h
                    obtain ⟨e', h1, h2⟩ := readyCode_ok hcode c _ _ _ (.on, e1, H1) hR (by rw [hv]; rfl)
                    rw [h1]; rw [kOut1_eq P _ _ h2] at h; exact h
                  | out i e1 H1 => simp only [hv, kOut] at h; cases h
                  | back e1 H1 =>
                    simp only [hv, kOut] at h
                    obtain ⟨e', h1, h2⟩ := readyCode_ok hcode c _ _ _ (.back, e1, H1) hR (by rw [hv]; rfl)
                    rw [h1]; rw [kOut1_eq P _ _ h2] at h; exact h
noncomputable def kTrue (r : Option (Value × AHeap)) : Bool := @Option.rec (Value × AHeap) (fun _ => Bool) false (fun p => @Option.rec Bool (fun _ => Bool) false (fun b => b) (vBool p.1)) r
theorem true_of_k {P : Program} {O : Helps} {ok : Nat → Bool} (ho : CallSound P [] (helpFn O)) (hm : P.follows .mixedOrders = true) (hok : ∀ f, ok f = true → chkFn P [] f = true) (hcode : ∀ f, ok f = true → codeOf P f = true) (n : Nat) (f : FuncId) (args : List Value) (hf : args.all flat = true) (h : kTrue (kRun P O ok n f args emptyH) = true) (w : World) : Calls P f args.toArray w fun e w' => e = .returned (.bool true) ∧ Below w.heap.size w w' := by
  cases hr : kRun P O ok n f args emptyH with
  | none => rw [hr] at h; cases h
  | some p =>
    obtain ⟨v, H'⟩ := p
    rw [hr] at h
    have hv : v = .bool true := by
      change @Option.rec Bool (fun _ => Bool) false (fun b => b) (vBool v) = true at h
      cases v with
      | bool b => change b = true at h; rw [h]
      | _ => cases h
    subst hv
    obtain ⟨_, hs⟩ := kRun_sound ho hm hok hcode n f args emptyH (.bool true) H' hr emptyH_wf
    refine (hs _ w args (emptyH_rel w) (fun g hg => (by cases hg)) ⟨rfl, fun j x y hx hy => ?_⟩).mono fun e w' hh => ?_
    · rw [hx] at hy; cases hy
      exact (flat_vr (List.all_eq_true.1 hf x (List.mem_of_getElem? hx)) _).1
    · obtain ⟨v', β', rfl, h1, h2, _⟩ := hh
      cases h1
      exact ⟨rfl, h2.below (fun i s hi => (by cases hi))⟩
end Go.Proofs.YtmkmdppjfdphnaaGreatDoor
