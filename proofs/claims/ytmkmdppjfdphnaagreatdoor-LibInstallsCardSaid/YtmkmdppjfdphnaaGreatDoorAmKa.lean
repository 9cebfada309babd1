/- The machine made ready for the kernel: functions as values, parts put together, rows and texts cut and added to. -/
import Derived.Test.YtmkmdppjfdphnaaGreatDoorAmK3
set_option linter.unusedSimpArgs false
set_option linter.unusedVariables false
namespace Go.Proofs.YtmkmdppjfdphnaaGreatDoor
open Go.RowKit
section
variable {P : Program} {o : Oper} {x y c : Operand} {t u : TypeId}
/-! ### the tables -/
noncomputable def kInfo (P : Program) (t : TypeId) : Option TypeInfo := @Option.rec TypeInfo (fun _ => Option TypeInfo) (P.info? t) (fun i => some i) (knth P.types.toList t)
theorem kInfo_eq (P : Program) (t : TypeId) : kInfo P t = P.info? t := by
  unfold kInfo
  rw [knth_eq]
  cases h : P.types.toList[t]? with
  | none => rfl
  | some i =>
    rw [Array.getElem?_toList] at h
    have hl := (Array.getElem?_eq_some_iff.1 h).1
    show some i = Tables.info? _ t
    unfold Tables.info?
    rw [if_pos hl, h]
noncomputable def kUnder (P : Program) (t : TypeId) : Option TypeDesc := match kInfo P t with
  | some { desc := .named _ u, .. } => (kInfo P u).map (·.desc)
  | some i => some i.desc
  | none => none
theorem kUnder_eq (P : Program) (t : TypeId) : kUnder P t = P.underlying t := by
  unfold kUnder Program.underlying
  simp only [kInfo_eq]
  rfl
noncomputable def kFun (P : Program) (f : FuncId) : Option Func := knth P.funcs.toList f
theorem kFun_eq (P : Program) (f : FuncId) : kFun P f = P.funcs[f]? := by unfold kFun; rw [knth_eq, Array.getElem?_toList]
/-! ### functions as values -/
noncomputable def kMakeFunc (fn : Fn) (a c : List (KG E8 Value)) : KF := fun _ e _ H => .ok (.func fn ⟨kmap (fun x => x.g e) a⟩ ⟨kmap (fun x => x.g e) c⟩) H
theorem arr_map {α β : Type} (f : α → β) (a : Array α) : (⟨a.toList.map f⟩ : Array β) = a.map f := Array.ext' (by simp)
theorem kMakeFunc_ok {fn : Fn} {a c : Array Operand} (ho : o.op = .makeFunc fn a c) : KOk P o (kMakeFunc fn (a.toList.map kOpd) (c.toList.map kOpd)) := fun call k8 e fid H r hR h => by
  unfold kMakeFunc at h
  rw [args_eq hR, args_eq hR, arr_map, arr_map] at h
  simp only [aStep, aSimple, ho]; exact h
structure KFv where
  fn : Fn
  a : List Value
  c : List Value
noncomputable def vFun : Value → Option KFv := @Value.rec (fun _ => Option KFv) (fun _ => Option KFv) (fun _ => Option KFv) (fun _ => none) (fun _ _ => none) (fun _ _ => none) (fun _ _ _ => none) (fun _ => none) (fun _ => none) (fun _ _ _ => none) (fun _ => none) (fun _ => none) (fun fn a c _ _ => some ⟨fn, a.1, c.1⟩) none (fun _ _ _ => none) none (fun _ _ => none) (fun _ _ => none) (fun _ _ => none) none (fun _ _ _ _ => none)
noncomputable def kFv {β : Type} (v : Value) (d : β) (k : FuncId → List Value → List Value → β) : β := @Option.rec KFv (fun _ => β) d (fun q => @Fn.rec (fun _ => β) (fun g => k g q.a q.c) (fun _ => d) (fun _ _ => d) (fun _ _ _ _ => d) (fun _ => d) q.fn) (vFun v)
theorem kFv_or (v : Value) : (∃ g a c, v = .func (.func g) ⟨a⟩ ⟨c⟩ ∧ ∀ {β : Type} (d : β) k, kFv v d k = k g a c) ∨ ∀ {β : Type} (d : β) k, kFv v d k = d := by
  cases v with
  | func fn a c => cases fn with
    | func g => exact .inl ⟨g, a.1, c.1, rfl, fun _ _ => rfl⟩
    | _ => exact .inr fun _ _ => rfl
  | _ => exact .inr fun _ _ => rfl
noncomputable def kapp {α : Type} (l m : List α) : List α := @List.rec α (fun _ => List α) m (fun a _ ih => a :: ih) l
theorem kapp_eq {α : Type} : ∀ l m : List α, kapp l m = l ++ m
  | [], _ => rfl
  | a :: l, m => congrArg (a :: ·) (kapp_eq l m)
noncomputable def kCallV (ok : Nat → Bool) (f : KG E8 Value) (args : List (KG E8 Value)) (g : KF) : KF := fun call e fid H => kFv (f.g e) (g call e fid H) fun q a c => @Bool.rec (fun _ => KV) (g call e fid H) (kof (call q (kapp a (kapp (kmap (fun x => x.g e) args) c)) H)) (ok q)
theorem kCallV_ok {ok : Nat → Bool} {args : Array Operand} {ts : Array TypeId} {g : KF} (hc : ∀ f, ok f = true → codeOf P f = true) (ho : o.op = .call { callee := .value x, args := args, argTypes := ts }) (hg : KOk P o g) : KOk P o (kCallV ok (kOpd x) (args.toList.map kOpd) g) := fun call k8 e fid H r hR h => by
  unfold kCallV at h
  rw [hR.arg] at h
  rcases kFv_or (aEval e x) with ⟨q, a, c, hx, hk⟩ | hk
  · rw [hk] at h
    cases hq : ok q with
    | false => rw [hq] at h; exact hg _ _ _ _ _ _ hR h
    | true =>
      rw [hq] at h
      change (kof _).opt = some r at h
      rw [kof_opt, args_eq hR, kapp_eq, kapp_eq] at h
      have h1 := @qu P call (aEval e) fid H (fun q => q = r) o.dst o.type o.pos o.after o.guard x args ts
      have ho' : (⟨o.dst, .call { callee := .value x, args := args, argTypes := ts }, o.type, o.pos, o.after, o.guard⟩ : Oper) = o := by cases o; simp only at ho; rw [ho]
      rw [ho', hx, calleeV_func q _ _ (hc q hq), qL] at h1
      exact got_eq1 (h1 ▸ ⟨r, by simpa using h, rfl⟩)
  · rw [hk] at h; exact hg _ _ _ _ _ _ hR h
/-! ### parts put together -/
noncomputable def ksetl {α : Type} (l : List α) : Nat → α → List α := @List.rec α (fun _ => Nat → α → List α) (fun _ _ => []) (fun a t ih n v => @Nat.rec (fun _ => List α) (v :: t) (fun m _ => a :: ih m v) n) l
theorem ksetl_eq {α : Type} : ∀ (l : List α) (n : Nat) (v : α), ksetl l n v = l.set n v
  | [], _, _ => rfl
  | a :: l, 0, v => rfl
  | a :: l, n + 1, v => congrArg (a :: ·) (ksetl_eq l n v)
noncomputable def kpart (vs : List Value) : Nat → List Value → List Value := @List.rec Value (fun _ => Nat → List Value → List Value) (fun _ l => l) (fun v _ ih off l => ih (Nat.succ off) (ksetl l off v)) vs
theorem kpart_eq (b : Nat) : ∀ (vs : List Value) (j : Nat) (cs : Array Value), kpart vs (b + j) cs.toList = ((vs.zipIdx j).foldl (fun (cs : Array Value) (p : Value × Nat) => cs.setIfInBounds (b + p.2) p.1) cs).toList
  | [], _, _ => rfl
  | v :: vs, j, cs => by
    show kpart vs (Nat.succ (b + j)) (ksetl cs.toList (b + j) v) = _
    rw [ksetl_eq, ← Array.toList_setIfInBounds, show Nat.succ (b + j) = b + (j + 1) from rfl, kpart_eq b vs (j + 1)]
    rfl
theorem kpart_len : ∀ (vs : List Value) (j : Nat) (l : List Value), (kpart vs j l).length = l.length
  | [], _, _ => rfl
  | v :: vs, j, l => by
    show (kpart vs (Nat.succ j) (ksetl l j v)).length = _
    rw [kpart_len vs, ksetl_eq, List.length_set]
structure KPart where
  off : Nat
  size : Nat
  x : KG E8 Value
noncomputable def kfill (ps : List KPart) (e : E8) (k : List Value → KV) : List Value → KV := @List.rec KPart (fun _ => List Value → KV) (fun l => k l) (fun p _ ih l => @Bool.rec (fun _ => KV) .fail (@Bool.rec (fun _ => KV) .fail (ih (kpart (kCells (p.x.g e)) p.off l)) (Nat.ble (Nat.add p.off p.size) (klen l))) (Nat.beq (klen (kCells (p.x.g e))) p.size)) ps
noncomputable def partsOf (place : Nat → Option (Nat × Nat)) : List (Nat × Operand) → Option (List KPart)
  | [] => some []
  | (i, x) :: ps => match place i, partsOf place ps with
    | some (off, size), some l => some (⟨off, size, kOpd x⟩ :: l)
    | _, _ => none
theorem kfill_ok {place : Nat → Option (Nat × Nat)} {k8 : E8} {e : Tr Value} (hR : FR k8 e) {k : List Value → KV} {r : Value × AHeap} : ∀ (ps : List (Nat × Operand)) (l : List KPart) (cs : Array Value), partsOf place ps = some l → (kfill l k8 k cs.toList).opt = some r →
    ∃ cs', Instr.fill place cs (ps.map fun p => (p.1, aEval e p.2)) = some cs' ∧ (k cs'.toList).opt = some r
  | [], l, cs, hp, h => by cases hp; exact ⟨cs, rfl, h⟩
  | (i, x) :: ps, l, cs, hp, h => by
    simp only [partsOf] at hp
    cases hpl : place i with
    | none => simp only [hpl] at hp; cases hp
    | some q =>
      obtain ⟨off, size⟩ := q
      cases hq : partsOf place ps with
      | none => simp only [hpl, hq] at hp; cases hp
      | some l' =>
        simp only [hpl, hq, Option.some.injEq] at hp
        subst hp
        change (@Bool.rec (fun _ => KV) .fail (@Bool.rec (fun _ => KV) .fail (kfill l' k8 k (kpart (kCells ((kOpd x).g k8)) off cs.toList)) (Nat.ble (Nat.add off size) (klen cs.toList))) (Nat.beq (klen (kCells ((kOpd x).g k8))) size)).opt = some r at h
        rw [hR.arg, kCells_eq, klen_eq, klen_eq] at h
        cases h1 : Nat.beq (aEval e x).cells.toList.length size with
        | false => rw [h1] at h; cases h
        | true =>
          rw [h1] at h
          change (@Bool.rec (fun _ => KV) .fail _ (Nat.ble (Nat.add off size) cs.toList.length)).opt = some r at h
          cases h2 : Nat.ble (Nat.add off size) cs.toList.length with
          | false => rw [h2] at h; cases h
          | true =>
            rw [h2] at h
            change (kfill l' k8 k (kpart (aEval e x).cells.toList off cs.toList)).opt = some r at h
            have e1 : (aEval e x).cells.size = size := Nat.eq_of_beq_eq_true h1
            have e2 : off + size ≤ cs.size := Nat.le_of_ble_eq_true h2
            have e3 := kpart_eq off (aEval e x).cells.toList 0 cs
            rw [Nat.add_zero] at e3
            rw [e3] at h
            obtain ⟨cs', h3, h4⟩ := kfill_ok hR ps l' _ hq h
            refine ⟨cs', ?_, h4⟩
            simp only [List.map_cons, Instr.fill, hpl]
            rw [if_neg (by simp [e1]; omega)]
            rw [← Array.foldl_toList, Array.toList_zipIdx]
            exact h3
noncomputable def kBuild (ps : List KPart) (z : List Value) : KF := fun _ e _ H => kfill ps e (fun l => .ok (.agg ⟨l⟩) H) z
noncomputable def kBuildSl (ps : List KPart) (z : List Value) (len : Nat) (el : TypeId) (size : Nat) : KF := fun _ e fid H => kfill ps e (fun l => kforce fid fun i => .ok (.slice (some ⟨i, Nat.zero, none⟩) len (Nat.succ len)) (kadd H i (.row l el size true))) z
/-- where parts go -/
noncomputable def kPlace (P : Program) (t : TypeId) : Option (Nat → Option (Nat × Nat)) := match kUnder P t with
  | some (.struct fields) => (placesOf P fields).map fun pl i => pl.toArray[i]?
  | some (.array _ el) => (kInfo P el).map fun ie i => some (i * ie.size, ie.size)
  | _ => none
noncomputable def readyBuild (P : Program) (o : Oper) (t : TypeId) (ps : Array (Nat × Operand)) : KB := match kInfo P t, kPlace P t with
  | some inf, some pl => match inf.zero, partsOf pl ps.toList with
    | some z, some l => cond (flat2 z) ⟨kBuild l z.cells.toList⟩ ⟨kGen P o⟩
    | _, _ => ⟨kGen P o⟩
  | _, _ => ⟨kGen P o⟩
theorem parts_toList {ps : Array (Nat × Operand)} {e : Tr Value} : (ps.map fun (p : Nat × Operand) => match p with | (i, x) => (i, aEval e x)).toList = ps.toList.map fun p => (p.1, aEval e p.2) := by simp
theorem readyBuild_ok {ps : Array (Nat × Operand)} (ho : o.op = .build t ps) : KOk P o (readyBuild P o t ps).f := by
  unfold readyBuild
  split
  · rename_i inf pl hi hp
    split
    · rename_i z l hz hl
      cases hf : flat2 z with
      | false => exact kGen_ok P o
      | true =>
        intro call k8 e fid H r hR h
        obtain ⟨cs', h1, h2⟩ := kfill_ok hR ps.toList l z.cells hl h
        simp only [aStep, aSimple, ho, aBuild]
        rw [kInfo_eq] at hi
        unfold kPlace at hp
        rw [kUnder_eq] at hp
        rw [hi]
        cases hu : P.underlying t with
        | none => rw [hu] at hp; cases hp
        | some d =>
          rw [hu] at hp
          cases d with
          | struct fields =>
            obtain ⟨q, hq, rfl⟩ := Option.map_eq_some_iff.1 hp
            simp only [hz, hq, hf, cond]
            rw [parts_toList, h1]
            exact h2
          | array n el =>
            change ((kInfo P el).map fun (ie : TypeInfo) (i : Nat) => some (i * ie.size, ie.size)) = some pl at hp
            rw [kInfo_eq] at hp
            obtain ⟨q, hq, rfl⟩ := Option.map_eq_some_iff.1 hp
            simp only [hz, hq, hf, cond]
            rw [parts_toList, h1]
            exact h2
          | _ => cases hp
    · exact kGen_ok P o
  · exact kGen_ok P o
noncomputable def readyBuildSl (P : Program) (o : Oper) (t : TypeId) (n : Nat) (ps : Array (Nat × Operand)) : KB := match kUnder P t with
  | some (.slice el) => match kInfo P el with
    | some inf => match inf.zero, partsOf (fun i => some (i * inf.size, inf.size)) ps.toList with
      | some z, some l => cond (flat2 z && (Nat.ble (n * inf.size) 16777216 && Nat.ble n 16777216)) ⟨kBuildSl l ((Array.range (n * inf.size)).map (z.cells[· % z.cells.size]!)).toList n el inf.size⟩ ⟨kGen P o⟩
      | _, _ => ⟨kGen P o⟩
    | none => ⟨kGen P o⟩
  | _ => ⟨kGen P o⟩
theorem readyBuildSl_ok {n : Nat} {ps : Array (Nat × Operand)} (ho : o.op = .buildSlice t n ps) : KOk P o (readyBuildSl P o t n ps).f := by
  unfold readyBuildSl
  rw [kUnder_eq]
  split
  · rename_i el hu
    rw [kInfo_eq]
    split
    · rename_i inf hi
      split
      · rename_i z l hz hl
        cases hf : flat2 z && (Nat.ble (n * inf.size) 16777216 && Nat.ble n 16777216) with
        | false => exact kGen_ok P o
        | true =>
          intro call k8 e fid H r hR h
          obtain ⟨cs', h1, h2⟩ := kfill_ok hR ps.toList l ((Array.range (n * inf.size)).map (z.cells[· % z.cells.size]!)) hl h
          simp only [kforce_eq, kadd_eq] at h2
          simp only [aStep, aSimple, ho, aBuildSlice, hu, hi, hz, hf, cond]
          rw [parts_toList, h1]
          exact h2
      · exact kGen_ok P o
    · exact kGen_ok P o
  · exact kGen_ok P o
end
end Go.Proofs.YtmkmdppjfdphnaaGreatDoor
