/- The machine made ready for the kernel: stores, whole code, calls. -/
import Derived.Test.YtmkmdppjfdphnaaGreatDoorAmKb
set_option linter.unusedSimpArgs false
set_option linter.unusedVariables false
namespace Go.Proofs.YtmkmdppjfdphnaaGreatDoor
open Go.RowKit

/-! ### stores -/
theorem Tr.set_set {α : Type} : ∀ (n : Nat) (t : Tr α) (k : Nat) (a b : Option α), Tr.set n (Tr.set n t k a) k b = Tr.set n t k b
  | 0, _, _, _, _ => rfl
  | n + 1, t, k, a, b => by
    cases t with
    | nil => cases k with
      | zero => rfl
      | succ j => simp only [Tr.set]; cases Nat.beq (j % 2) 0 <;> simp only [cond, Tr.set, Tr.set_set n]
    | node l x r => cases k with
      | zero => rfl
      | succ j => simp only [Tr.set]; cases hb : Nat.beq (j % 2) 0 <;> simp only [cond, Tr.set, Tr.set_set n, hb]
theorem note_note (i : Nat) (l : List Nat) : noteId i (noteId i l) = noteId i l := by
  unfold noteId
  cases h : l.any (Nat.beq i) with
  | true => simp only [cond, h]
  | false => simp only [cond, List.any_cons, Nat.beq_refl, Bool.true_or]
theorem upd_upd (H : AHeap) (i : Nat) (a b : Option AObj) : (H.upd i a).upd i b = H.upd i b := by
  unfold AHeap.upd Tr.put
  simp only [Tr.set_set, note_note]
noncomputable def vOne (v : Value) : Bool := @Value.rec (fun _ => Bool) (fun _ => Bool) (fun _ => Bool) (fun _ => true) (fun _ _ => true) (fun _ _ => true) (fun _ _ _ => true) (fun _ => true) (fun _ => true) (fun _ _ _ => true) (fun _ => true) (fun _ => true) (fun _ _ _ _ _ => true) true (fun _ _ _ => true) true (fun _ _ => false) (fun _ _ => false) (fun _ _ => true) true (fun _ _ _ _ => true) v
theorem vOne_eq (v : Value) : vOne v = oneV v := by cases v <;> rfl
noncomputable def kover (vs : List Value) : List Value → (List Value → KV) → KV :=
  @List.rec Value (fun _ => List Value → (List Value → KV) → KV) (fun l k => k l) (fun v _ ih l k => @List.rec Value (fun _ => KV) .fail (fun _ t _ => @Bool.rec (fun _ => KV) .fail (ih t (fun r => k (v :: r))) (vOne v)) l) vs
noncomputable def kplace (vs : List Value) (p : Nat) : List Value → (List Value → KV) → KV :=
  @Nat.rec (fun _ => List Value → (List Value → KV) → KV) (kover vs) (fun _ ih l k => @List.rec Value (fun _ => KV) .fail (fun a t _ => ih t (fun r => k (a :: r))) l) p
theorem kover_ok {i : Nat} {et : TypeId} {es : Nat} : ∀ (vs pre l : List Value) (k : List Value → KV) (r : Value × AHeap), (kover vs l k).opt = some r → vs ≠ [] →
    ∃ cells', (k cells').opt = some r ∧ ∀ H, aStoreCells i et es H (pre ++ l) pre.length vs = some (H.upd i (some (.row (pre ++ cells') et es true)))
  | [], _, _, _, _, _, hn => absurd rfl hn
  | v :: vs, pre, [], k, r, h, _ => by cases h
  | v :: vs, pre, c :: t, k, r, h, _ => by
    change (@Bool.rec (fun _ => KV) .fail (kover vs t (fun r => k (v :: r))) (vOne v)).opt = some r at h
    rw [vOne_eq] at h
    cases ho : oneV v with
    | false => rw [ho] at h; cases h
    | true =>
      rw [ho] at h
      change (kover vs t (fun r => k (v :: r))).opt = some r at h
      have hlt : Nat.blt pre.length (pre ++ c :: t).length = true := by rw [Nat.blt_eq]; simp
      have hset : (pre ++ c :: t).set pre.length v = (pre ++ [v]) ++ t := by rw [List.set_append_right _ _ (Nat.le_refl _), Nat.sub_self]; simp
      by_cases hvs : vs = []
      · subst hvs
        refine ⟨v :: t, h, fun H => ?_⟩
        simp only [aStoreCells, hlt, ho, Bool.and_self, cond, hset]
        simp
      · obtain ⟨cells', h1, h2⟩ := kover_ok vs (pre ++ [v]) t _ r h hvs
        refine ⟨v :: cells', h1, fun H => ?_⟩
        simp only [aStoreCells, hlt, ho, Bool.and_self, cond, hset]
        have := h2 (H.upd i (some (.row (pre ++ [v] ++ t) et es true)))
        rw [List.length_append, List.length_singleton] at this
        rw [this, upd_upd]
        simp
theorem kplace_ok {i : Nat} {et : TypeId} {es : Nat} {vs : List Value} (hn : vs ≠ []) : ∀ (p : Nat) (pre l : List Value) (k : List Value → KV) (r : Value × AHeap), (kplace vs p l k).opt = some r →
    ∃ cells', (k cells').opt = some r ∧ ∀ H, aStoreCells i et es H (pre ++ l) (pre.length + p) vs = some (H.upd i (some (.row (pre ++ cells') et es true)))
  | 0, pre, l, k, r, h => kover_ok vs pre l k r h hn
  | p + 1, pre, [], k, r, h => by cases h
  | p + 1, pre, a :: t, k, r, h => by
    obtain ⟨cells', h1, h2⟩ := kplace_ok hn p (pre ++ [a]) t (fun r => k (a :: r)) r h
    refine ⟨a :: cells', h1, fun H => ?_⟩
    have := h2 H
    rw [List.length_append, List.length_singleton, List.append_assoc] at this
    rw [show pre.length + (p + 1) = pre.length + 1 + p by omega]
    simpa using this
section
variable {P : Program} {o : Oper} {x y : Operand} {t : TypeId}
noncomputable def kStore (x y : KG E8 Value) (n : Nat) : KF := fun _ e _ H => kPtr (x.g e) .fail fun i p => kRow H i .fail fun cells et es w => @Bool.rec (fun _ => KV) .fail (@Bool.rec (fun _ => KV) .fail (kplace (kCells (y.g e)) p cells fun cs => .ok undef (kupd H i (some (.row cs et es true)))) (Nat.beq (klen (kCells (y.g e))) n)) w
theorem kStore_ok {inf : TypeInfo} (ho : o.op = .store t x y) (hi : P.info? t = some inf) (hz : Nat.beq inf.size 0 = false) : KOk P o (kStore (kOpd x) (kOpd y) inf.size) := fun call k8 e fid H r hR h => by
  unfold kStore at h; rw [hR.arg, hR.arg, kCells_eq, klen_eq] at h
  simp only [aStep, aSimple, ho]
  rcases kPtr_or (aEval e x) with ⟨i, p, hx, hk⟩ | hk
  · rw [hk] at h
    rcases kRow_or H i with ⟨c, et, es, w, hr, hk2⟩ | hk2
    · rw [hk2] at h
      cases w with
      | false => cases h
      | true =>
        change (@Bool.rec (fun _ => KV) .fail (kplace (aEval e y).cells.toList p c fun cs => .ok undef (kupd H i (some (.row cs et es true)))) (Nat.beq (aEval e y).cells.toList.length inf.size)).opt = some r at h
        rw [show (aEval e y).cells.toList.length = (aEval e y).cells.size from rfl] at h
        cases hb : Nat.beq (aEval e y).cells.size inf.size with
        | false => rw [hb] at h; cases h
        | true =>
          rw [hb] at h
          change (kplace (aEval e y).cells.toList p c fun cs => .ok undef (kupd H i (some (.row cs et es true)))).opt = some r at h
          have hn : (aEval e y).cells.toList ≠ [] := fun he => by
            have e1 : (aEval e y).cells.size = 0 := by rw [← Array.length_toList, he]; rfl
            rw [e1] at hb
            have := Nat.eq_of_beq_eq_true hb
            rw [← this] at hz; cases hz
          obtain ⟨cells', h1, h2⟩ := kplace_ok (i := i) (et := et) (es := es) hn p [] c _ r h
          have h3 := h2 H
          simp only [List.nil_append, List.length_nil, Nat.zero_add] at h3
          simp only [hx, aStore, hr, hi, hb, cond, h3, Option.map_some]
          rw [kupd_eq] at h1; exact h1
    · rw [hk2] at h; cases h
  · rw [hk] at h; cases h
theorem is_quo {t : TypeId} : ArithIs P .quo t okDiv Nat.div := fun cx cy a b hc h => by
  have hb : (Int.ofNat b) ≠ 0 := fun e => by have := Int.ofNat.inj e; subst this; cases hc
  rw [b_quo hb, show (Int.ofNat a).tdiv (Int.ofNat b) = Int.ofNat (Nat.div a b) from rfl, wrap_nat h]
theorem is_rem {t : TypeId} : ArithIs P .rem t okDiv Nat.mod := fun cx cy a b hc h => by
  have hb : (Int.ofNat b) ≠ 0 := fun e => by have := Int.ofNat.inj e; subst this; cases hc
  rw [b_rem hb]; rfl
end

/-! ### an operation made ready -/
noncomputable def readyBin (P : Program) (o : Oper) (op : BinOp) (x y : KG E8 Value) : KB := match op with
  | .eql => ⟨kCmp fEql x y (kEqS false x y (kGen P o))⟩
  | .neq => ⟨kCmp fNeq x y (kEqS true x y (kGen P o))⟩
  | .lss => ⟨kCmp fLss x y (kGen P o)⟩
  | .leq => ⟨kCmp fLeq x y (kGen P o)⟩
  | .gtr => ⟨kCmp fGtr x y (kGen P o)⟩
  | .geq => ⟨kCmp fGeq x y (kGen P o)⟩
  | .add => ⟨kArith okAny Nat.add x y (kGen P o)⟩
  | .sub => ⟨kArith okSub Nat.sub x y (kGen P o)⟩
  | .mul => ⟨kArith okAny Nat.mul x y (kGen P o)⟩
  | .quo => ⟨kArith okDiv Nat.div x y (kGen P o)⟩
  | .rem => ⟨kArith okDiv Nat.mod x y (kGen P o)⟩
  | _ => ⟨kGen P o⟩
theorem readyBin_ok {P : Program} {o : Oper} {op : BinOp} {t u : TypeId} {x y : Operand} (ho : o.op = .binOp op t x y u) : KOk P o (readyBin P o op (kOpd x) (kOpd y)).f := by
  cases op with
  | eql => exact kCmp_ok ho is_eql (kEqS_ok ho rfl (kGen_ok P o))
  | neq => exact kCmp_ok ho is_neq (kEqS_ok ho rfl (kGen_ok P o))
  | lss => exact kCmp_ok ho is_lss (kGen_ok P o)
  | leq => exact kCmp_ok ho is_leq (kGen_ok P o)
  | gtr => exact kCmp_ok ho is_gtr (kGen_ok P o)
  | geq => exact kCmp_ok ho is_geq (kGen_ok P o)
  | add => exact kArith_ok ho is_add (kGen_ok P o)
  | sub => exact kArith_ok ho is_sub (kGen_ok P o)
  | mul => exact kArith_ok ho is_mul (kGen_ok P o)
  | quo => exact kArith_ok ho is_quo (kGen_ok P o)
  | rem => exact kArith_ok ho is_rem (kGen_ok P o)
  | _ => exact kGen_ok P o
noncomputable def readyLoad (P : Program) (o : Oper) (t : TypeId) (x : KG E8 Value) : KB := match kUnder P t with
  | some d => cond (aggT d) (match kInfo P t with
    | some inf => ⟨kLoadN x inf.size⟩
    | none => ⟨kGen P o⟩) ⟨kLoad1 x⟩
  | none => ⟨kGen P o⟩
theorem readyLoad_ok {P : Program} {o : Oper} {t : TypeId} {x : Operand} (ho : o.op = .load t x) : KOk P o (readyLoad P o t (kOpd x)).f := by
  unfold readyLoad
  rw [kUnder_eq, kInfo_eq]
  split
  · rename_i d hd
    cases ha : aggT d with
    | false => exact kLoad1_ok ho hd ha
    | true =>
      simp only [cond]
      split
      · exact kLoadN_ok ho hd ha ‹_›
      · exact kGen_ok P o
  · exact kGen_ok P o
noncomputable def readyFieldAddr (P : Program) (o : Oper) (t f : Nat) (x : KG E8 Value) : KB := match kUnder P t with
  | some (.struct fs) => match fs[f]? with
    | some fd => match kInfo P fd.type with
      | some inf => cond (Nat.beq inf.size 0) ⟨kGen P o⟩ ⟨kFieldAddr x fd.offset⟩
      | none => ⟨kGen P o⟩
    | none => ⟨kGen P o⟩
  | _ => ⟨kGen P o⟩
theorem readyFieldAddr_ok {P : Program} {o : Oper} {t f : Nat} {x : Operand} (ho : o.op = .fieldAddr t x f) : KOk P o (readyFieldAddr P o t f (kOpd x)).f := by
  unfold readyFieldAddr
  rw [kUnder_eq]
  split
  · split
    · rw [kInfo_eq]
      split
      · rename_i inf hi
        cases hz : Nat.beq inf.size 0 with
        | true => exact kGen_ok P o
        | false => exact kFieldAddr_ok ho ‹_› ‹_› hi hz
      · exact kGen_ok P o
    · exact kGen_ok P o
  · exact kGen_ok P o
noncomputable def readyField (P : Program) (o : Oper) (t f : Nat) (x : KG E8 Value) : KB := match kUnder P t with
  | some (.struct fs) => match fs[f]? with
    | some fd => match kUnder P fd.type, kInfo P fd.type with
      | some d, some _ => cond (aggT d) ⟨kGen P o⟩ ⟨kField1 x fd.offset⟩
      | _, _ => ⟨kGen P o⟩
    | none => ⟨kGen P o⟩
  | _ => ⟨kGen P o⟩
theorem readyField_ok {P : Program} {o : Oper} {t f : Nat} {x : Operand} (ho : o.op = .field t x f) : KOk P o (readyField P o t f (kOpd x)).f := by
  unfold readyField
  rw [kUnder_eq]
  split
  · split
    · rw [kUnder_eq, kInfo_eq]
      split
      · rename_i d inf hd hi
        cases ha : aggT d with
        | true => exact kGen_ok P o
        | false => exact kField1_ok ho ‹_› ‹_› hd hi ha
      · exact kGen_ok P o
    · exact kGen_ok P o
  · exact kGen_ok P o
noncomputable def readyIndexAddr (P : Program) (o : Oper) (t : TypeId) (x y : KG E8 Value) : KB := match kUnder P t with
  | some (.slice el) => match kInfo P el with
    | some inf => ⟨kIndexAddr x y inf.size⟩
    | none => ⟨kGen P o⟩
  | some (.array n el) => match kInfo P el with
    | some inf => ⟨kIndexAddrA x y n inf.size⟩
    | none => ⟨kGen P o⟩
  | _ => ⟨kGen P o⟩
theorem readyIndexAddr_ok {P : Program} {o : Oper} {t : TypeId} {x y : Operand} (ho : o.op = .indexAddr t x y) : KOk P o (readyIndexAddr P o t (kOpd x) (kOpd y)).f := by
  unfold readyIndexAddr
  rw [kUnder_eq]
  split
  · rw [kInfo_eq]
    split
    · exact kIndexAddr_ok ho ‹_› ‹_›
    · exact kGen_ok P o
  · rw [kInfo_eq]
    split
    · exact kIndexAddrA_ok ho ‹_› ‹_›
    · exact kGen_ok P o
  · exact kGen_ok P o
noncomputable def readySlice (P : Program) (o : Oper) (t : TypeId) (x : KG E8 Value) (lo hi : Option (KG E8 Value)) : KB := match kUnder P t with
  | some .string => ⟨kSliceS x lo hi (kGen P o)⟩
  | some (.slice el) => match kInfo P el with
    | some inf => ⟨kSliceR x lo hi inf.size (kGen P o)⟩
    | none => ⟨kGen P o⟩
  | _ => ⟨kGen P o⟩
theorem readySlice_ok {P : Program} {o : Oper} {t : TypeId} {x : Operand} {lo hi : Option Operand} (ho : o.op = .slice t x lo hi none) : KOk P o (readySlice P o t (kOpd x) (lo.map kOpd) (hi.map kOpd)).f := by
  unfold readySlice
  rw [kUnder_eq]
  split
  · exact kSliceS_ok ho ‹_› (kGen_ok P o)
  · rw [kInfo_eq]
    split
    · exact kSliceR_ok ho ‹_› ‹_› (kGen_ok P o)
    · exact kGen_ok P o
  · exact kGen_ok P o
noncomputable def readyLen (P : Program) (o : Oper) (args : List Operand) (ts : List TypeId) : KB := match args, ts with
  | [x], [t] => match kUnder P t with
    | some (.slice _) => ⟨kLenSl (kOpd x)⟩
    | some .string => ⟨kLenStr (kOpd x)⟩
    | _ => ⟨kGen P o⟩
  | _, _ => ⟨kGen P o⟩
theorem readyLen_ok {P : Program} {o : Oper} {args : Array Operand} {ts : Array TypeId} (ho : o.op = .call { callee := .builtin .len, args := args, argTypes := ts }) : KOk P o (readyLen P o args.toList ts.toList).f := by
  unfold readyLen
  split
  · rename_i x t h1 h2
    obtain rfl : args = #[x] := Array.ext' h1
    obtain rfl : ts = #[t] := Array.ext' h2
    rw [kUnder_eq]
    split
    · exact kLenSl_ok ho ‹_›
    · exact kLenStr_ok ho ‹_›
    · exact kGen_ok P o
  · exact kGen_ok P o
noncomputable def readyApp (P : Program) (o : Oper) (args : List Operand) (ts : List TypeId) : KB := match args, ts with
  | [x, y], [t, u] => readyAppend P o x y t u
  | _, _ => ⟨kGen P o⟩
theorem readyApp_ok {P : Program} {o : Oper} {args : Array Operand} {ts : Array TypeId} (ho : o.op = .call { callee := .builtin .append, args := args, argTypes := ts }) : KOk P o (readyApp P o args.toList ts.toList).f := by
  unfold readyApp
  split
  · rename_i x y t u h1 h2
    obtain rfl : args = #[x, y] := Array.ext' h1
    obtain rfl : ts = #[t, u] := Array.ext' h2
    exact readyAppend_ok ho
  · exact kGen_ok P o
noncomputable def readyAlloc (P : Program) (o : Oper) (t : TypeId) : KB := match kInfo P t with
  | some inf => match inf.zero with
    | some z => cond (flat2 z) ⟨kAlloc t z.cells.toList⟩ ⟨kGen P o⟩
    | none => ⟨kGen P o⟩
  | none => ⟨kGen P o⟩
theorem readyAlloc_ok {P : Program} {o : Oper} {t : TypeId} (ho : o.op = .alloc t) : KOk P o (readyAlloc P o t).f := by
  unfold readyAlloc
  rw [kInfo_eq]
  split
  · split
    · rename_i z hz
      cases hf : flat2 z with
      | false => exact kGen_ok P o
      | true => exact kAlloc_ok ho ‹_› hz hf
    · exact kGen_ok P o
  · exact kGen_ok P o
noncomputable def readyStore (P : Program) (o : Oper) (t : TypeId) (x y : KG E8 Value) : KB := match kInfo P t with
  | some inf => cond (Nat.beq inf.size 0) ⟨kGen P o⟩ ⟨kStore x y inf.size⟩
  | none => ⟨kGen P o⟩
theorem readyStore_ok {P : Program} {o : Oper} {t : TypeId} {x y : Operand} (ho : o.op = .store t x y) : KOk P o (readyStore P o t (kOpd x) (kOpd y)).f := by
  unfold readyStore
  rw [kInfo_eq]
  split
  · rename_i inf hi
    cases hz : Nat.beq inf.size 0 with
    | true => exact kGen_ok P o
    | false => exact kStore_ok ho hi hz
  · exact kGen_ok P o
noncomputable def readyConv (P : Program) (o : Oper) (s d : TypeId) (x : KG E8 Value) : KB := match kUnder P s, kUnder P d with
  | some _, some (.int k) => ⟨kConv k (kLim k) x (kGen P o)⟩
  | _, _ => ⟨kGen P o⟩
theorem readyConv_ok {P : Program} {o : Oper} {s d : TypeId} {x : Operand} (ho : o.op = .convert s d x) : KOk P o (readyConv P o s d (kOpd x)).f := by
  unfold readyConv
  rw [kUnder_eq, kUnder_eq]
  split
  · exact kConv_ok ho ‹_› ‹_› (kGen_ok P o)
  · exact kGen_ok P o
noncomputable def readyIndex (P : Program) (o : Oper) (t : TypeId) (x y : KG E8 Value) : KB := match kUnder P t with
  | some .string => ⟨kIndexS x y (kGen P o)⟩
  | _ => ⟨kGen P o⟩
theorem readyIndex_ok {P : Program} {o : Oper} {t : TypeId} {x y : Operand} (ho : o.op = .index t x y) : KOk P o (readyIndex P o t (kOpd x) (kOpd y)).f := by
  unfold readyIndex
  rw [kUnder_eq]
  split
  · exact kIndexS_ok ho ‹_› (kGen_ok P o)
  · exact kGen_ok P o
noncomputable def readyCallF (P : Program) (ok : Nat → Bool) (o : Oper) (f : Operand) (args : List Operand) : KB := match f with
  | .func g => cond (ok g) ⟨kCall g (args.map kOpd)⟩ ⟨kGen P o⟩
  | x => ⟨kCallV ok (kOpd x) (args.map kOpd) (kGen P o)⟩
theorem readyCallF_ok {P : Program} {ok : Nat → Bool} (hc : ∀ f, ok f = true → codeOf P f = true) {o : Oper} {f : Operand} {args : Array Operand} {ts : Array TypeId} (ho : o.op = .call { callee := .value f, args := args, argTypes := ts }) : KOk P o (readyCallF P ok o f args.toList).f := by
  unfold readyCallF
  split
  · rename_i g
    cases hg : ok g with
    | false => exact kGen_ok P o
    | true => exact kCall_ok ho (hc g hg)
  · exact kCallV_ok hc ho (kGen_ok P o)
noncomputable def ready (P : Program) (ok : Nat → Bool) (o : Oper) : KB := match o.op with
  | .move x | .assign x => ⟨kMove (kOpd x)⟩
  | .pick c x y => ⟨kPick (kOpd c) (kOpd x) (kOpd y)⟩
  | .load t x => readyLoad P o t (kOpd x)
  | .store t x y => readyStore P o t (kOpd x) (kOpd y)
  | .fieldAddr t x f => readyFieldAddr P o t f (kOpd x)
  | .nilCheck x => ⟨kNil (kOpd x) (kGen P o)⟩
  | .field t x f => readyField P o t f (kOpd x)
  | .extract x n => ⟨kExtract (kOpd x) n⟩
  | .indexAddr t x y => readyIndexAddr P o t (kOpd x) (kOpd y)
  | .index t x y => readyIndex P o t (kOpd x) (kOpd y)
  | .binOp op _ x y _ => readyBin P o op (kOpd x) (kOpd y)
  | .unOp .not _ x => ⟨kNot (kOpd x) (kGen P o)⟩
  | .convert s d x => readyConv P o s d (kOpd x)
  | .slice t x lo hi none => readySlice P o t (kOpd x) (lo.map kOpd) (hi.map kOpd)
  | .build t ps => readyBuild P o t ps
  | .buildSlice t n ps => readyBuildSl P o t n ps
  | .makeFunc fn a c => ⟨kMakeFunc fn (a.toList.map kOpd) (c.toList.map kOpd)⟩
  | .makeMap _ none => ⟨kMakeMap⟩
  | .call { callee := .builtin .len, args, argTypes } => readyLen P o args.toList argTypes.toList
  | .call { callee := .builtin .append, args, argTypes } => readyApp P o args.toList argTypes.toList
  | .call { callee := .value f, args, .. } => readyCallF P ok o f args.toList
  | .alloc t => readyAlloc P o t
  | .box t x => ⟨kBox t (kOpd x)⟩
  | _ => ⟨kGen P o⟩
theorem ready_ok {P : Program} {ok : Nat → Bool} (hc : ∀ f, ok f = true → codeOf P f = true) (o : Oper) : KOk P o (ready P ok o).f := by
  unfold ready
  split
  · exact kMove_ok (.inl ‹_›)
  · exact kMove_ok (.inr ‹_›)
  · exact kPick_ok ‹_›
  · exact readyLoad_ok ‹_›
  · exact readyStore_ok ‹_›
  · exact readyFieldAddr_ok ‹_›
  · exact kNil_ok ‹_› (kGen_ok P o)
  · exact readyField_ok ‹_›
  · exact kExtract_ok ‹_›
  · exact readyIndexAddr_ok ‹_›
  · exact readyIndex_ok ‹_›
  · exact readyBin_ok ‹_›
  · exact kNot_ok ‹_› (kGen_ok P o)
  · exact readyConv_ok ‹_›
  · exact readySlice_ok ‹_›
  · exact readyBuild_ok ‹_›
  · exact readyBuildSl_ok ‹_›
  · exact kMakeFunc_ok ‹_›
  · exact kMakeMap_ok ‹_›
  · exact readyLen_ok ‹_›
  · exact readyApp_ok ‹_›
  · exact readyCallF_ok hc ‹_›
  · exact readyAlloc_ok ‹_›
  · exact kBox_ok ‹_›
  · exact kGen_ok P o
end Go.Proofs.YtmkmdppjfdphnaaGreatDoor
