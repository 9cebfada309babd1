/- The machine made ready for the kernel: code turned beforehand into functions that the kernel unfolds cheaply; what it answers the machine without static checks answers. -/
import Derived.Test.YtmkmdppjfdphnaaGreatDoorAmQ
set_option linter.unusedSimpArgs false
set_option linter.unusedVariables false
namespace Go.Proofs.YtmkmdppjfdphnaaGreatDoor
open Go.RowKit

/-! ### trees -/
noncomputable def kget {α : Type} (t : Tr α) : Nat → Option α :=
  @Tr.rec α (fun _ => Nat → Option α) (fun _ => none) (fun _ v _ il ir k => @Nat.rec (fun _ => Option α) v (fun j _ => @Nat.rec (fun _ => Option α) (il (Nat.div j (nat_lit 2))) (fun _ _ => ir (Nat.div j (nat_lit 2))) (Nat.mod j (nat_lit 2))) k) t
/-- a new branch -/
noncomputable def knew {α : Type} (n : Nat) : Nat → Option α → Tr α :=
  @Nat.rec (fun _ => Nat → Option α → Tr α) (fun _ _ => .nil) (fun _ ih k v => @Nat.rec (fun _ => Tr α) (.node .nil v .nil) (fun j _ => @Nat.rec (fun _ => Tr α) (.node (ih (Nat.div j (nat_lit 2)) v) none .nil) (fun _ _ => .node .nil none (ih (Nat.div j (nat_lit 2)) v)) (Nat.mod j (nat_lit 2))) k) n
noncomputable def kset {α : Type} (t : Tr α) : Nat → Option α → Tr α :=
  @Tr.rec α (fun _ => Nat → Option α → Tr α) (fun k v => knew (Nat.succ k) k v) (fun l x r il ir k v => @Nat.rec (fun _ => Tr α) (.node l v r) (fun j _ => @Nat.rec (fun _ => Tr α) (.node (il (Nat.div j (nat_lit 2)) v) x r) (fun _ _ => .node l x (ir (Nat.div j (nat_lit 2)) v)) (Nat.mod j (nat_lit 2))) k) t
theorem rec_mod {α : Type} (a b : α) (m : Nat) : @Nat.rec (fun _ => α) a (fun _ _ => b) m = cond (Nat.beq m 0) a b := by cases m <;> rfl
theorem kget_eq {α : Type} (t : Tr α) : ∀ k, kget t k = t.get k := by
  induction t with
  | nil => intro k; rw [Tr.get_nil]; rfl
  | node l v r il ir =>
    intro k
    cases k with
    | zero => rfl
    | succ j =>
      show @Nat.rec (fun _ => Option α) (kget l (j / 2)) (fun _ _ => kget r (j / 2)) (j % 2) = _
      rw [rec_mod, il, ir]; rfl
theorem Tr.set_fuel {α : Type} : ∀ (n m : Nat) (t : Tr α) (k : Nat) (v : Option α), k < n → k < m → Tr.set n t k v = Tr.set m t k v
  | 0, _, _, _, _, h, _ => by omega
  | _, 0, _, _, _, _, h => by omega
  | n + 1, m + 1, t, k, v, h, g => by
    have ih := fun (t : Tr α) (k : Nat) (h : k < n) (g : k < m) => Tr.set_fuel n m t k v h g
    cases t with
    | nil => cases k with
      | zero => rfl
      | succ j => simp only [Tr.set]; rw [ih .nil (j / 2) (by omega) (by omega)]
    | node l x r => cases k with
      | zero => rfl
      | succ j => simp only [Tr.set]; rw [ih l (j / 2) (by omega) (by omega), ih r (j / 2) (by omega) (by omega)]
theorem knew_eq {α : Type} : ∀ (n k : Nat) (v : Option α), knew n k v = Tr.set n .nil k v
  | 0, _, _ => rfl
  | n + 1, k, v => by
    cases k with
    | zero => rfl
    | succ j =>
      show @Nat.rec (fun _ => Tr α) (.node (knew n (j / 2) v) none .nil) (fun _ _ => .node .nil none (knew n (j / 2) v)) (j % 2) = _
      rw [rec_mod, knew_eq]; rfl
theorem kset_eq {α : Type} (t : Tr α) : ∀ (k : Nat) (v : Option α), kset t k v = Tr.set (k + 1) t k v := by
  induction t with
  | nil => intro k v; exact knew_eq (k + 1) k v
  | node l x r il ir =>
    intro k v
    cases k with
    | zero => rfl
    | succ j =>
      show @Nat.rec (fun _ => Tr α) (.node (kset l (j / 2) v) x r) (fun _ _ => .node l x (kset r (j / 2) v)) (j % 2) = _
      rw [rec_mod, il, ir, Tr.set_fuel (j / 2 + 1) (j + 1) l (j / 2) v (by omega) (by omega), Tr.set_fuel (j / 2 + 1) (j + 1) r (j / 2) v (by omega) (by omega)]; rfl
noncomputable def kput {α : Type} (t : Tr α) (k : Nat) (v : Option α) : Tr α := kset t k v
theorem kput_eq {α : Type} (t : Tr α) (k : Nat) (v : Option α) : kput t k v = t.put k v := kset_eq _ _ _

/-! ### lists -/
noncomputable def knth {α : Type} (l : List α) : Nat → Option α :=
  @List.rec α (fun _ => Nat → Option α) (fun _ => none) (fun a _ ih n => @Nat.rec (fun _ => Option α) (some a) (fun m _ => ih m) n) l
theorem knth_eq {α : Type} (l : List α) : ∀ n, knth l n = l[n]? := by
  induction l with
  | nil => intro n; rfl
  | cons a l ih => intro n; cases n with
    | zero => rfl
    | succ n => exact ih n
noncomputable def kdrop {α : Type} (n : Nat) : List α → List α :=
  @Nat.rec (fun _ => List α → List α) (fun l => l) (fun _ ih l => @List.rec α (fun _ => List α) [] (fun _ t _ => ih t) l) n
theorem kdrop_eq {α : Type} : ∀ (n : Nat) (l : List α), kdrop n l = l.drop n
  | 0, _ => rfl
  | n + 1, [] => by rfl
  | n + 1, a :: l => kdrop_eq n l
/-- the first n, if there are as many -/
noncomputable def ktake {α β : Type} (n : Nat) (k : List α → Option β) : List α → Option β :=
  @Nat.rec (fun _ => (List α → Option β) → List α → Option β) (fun k _ => k []) (fun _ ih k l => @List.rec α (fun _ => Option β) none (fun a t _ => ih (fun r => k (a :: r)) t) l) n k
theorem ktake_eq {α β : Type} : ∀ (n : Nat) (k : List α → Option β) (l : List α), ktake n k l = cond (Nat.beq (l.take n).length n) (k (l.take n)) none
  | 0, k, l => rfl
  | n + 1, k, [] => rfl
  | n + 1, k, a :: l => by
    show ktake n (fun r => k (a :: r)) l = _
    rw [ktake_eq]; rfl
noncomputable def kcut {β : Type} (cells : List Value) (o n : Nat) (k : List Value → Option β) : Option β := ktake n k (kdrop o cells)
theorem kcut_eq {β : Type} (cells : List Value) (o n : Nat) (k : List Value → Option β) : kcut cells o n k = (cut cells o n).bind k := by
  unfold kcut cut
  rw [ktake_eq, kdrop_eq]
  show _ = (cond (Nat.beq ((cells.drop o).take n).length n) (some ((cells.drop o).take n)) none).bind k
  cases Nat.beq ((cells.drop o).take n).length n <;> rfl
noncomputable def kany (i : Nat) (l : List Nat) : Bool := @List.rec Nat (fun _ => Bool) false (fun a _ ih => @Bool.rec (fun _ => Bool) ih true (Nat.beq i a)) l
theorem kany_eq (i : Nat) : ∀ l, kany i l = l.any (Nat.beq i)
  | [] => rfl
  | a :: l => by
    show @Bool.rec (fun _ => Bool) (kany i l) true (Nat.beq i a) = _
    rw [kany_eq i l, List.any_cons]
    cases Nat.beq i a <;> rfl
noncomputable def kmap {α β : Type} (f : α → β) (l : List α) : List β := @List.rec α (fun _ => List β) [] (fun a _ ih => f a :: ih) l
theorem kmap_eq {α β : Type} (f : α → β) : ∀ l, kmap f l = l.map f
  | [] => rfl
  | a :: l => by show f a :: kmap f l = _; rw [kmap_eq f l]; rfl

/-! ### memory -/
noncomputable def knote (i : Nat) (l : List Nat) : List Nat := @Bool.rec (fun _ => List Nat) (i :: l) l (kany i l)
theorem knote_eq (i : Nat) (l : List Nat) : knote i l = noteId i l := by
  unfold knote noteId
  rw [kany_eq]
  cases l.any (Nat.beq i) <;> rfl
noncomputable def kupd (H : AHeap) (i : Nat) (o : Option AObj) : AHeap := ⟨kput H.objs i o, H.next, knote i H.log⟩
theorem kupd_eq (H : AHeap) (i : Nat) (o : Option AObj) : kupd H i o = H.upd i o := by unfold kupd AHeap.upd; rw [kput_eq, knote_eq]
noncomputable def kadd (H : AHeap) (i : Nat) (o : AObj) : AHeap := ⟨kput H.objs i (some o), H.next, H.log⟩
theorem kadd_eq (H : AHeap) (i : Nat) (o : AObj) : kadd H i o = H.add i o := by unfold kadd AHeap.add; rw [kput_eq]

/-! ### what a step comes to -/
inductive KV where
  | fail
  | ok (v : Value) (H : AHeap)
def KV.opt : KV → Option (Value × AHeap)
  | .fail => none
  | .ok v H => some (v, H)
/-! ### the frame: eight by eight by eight -/
structure N8 (α : Type) where
  a : α
  b : α
  c : α
  d : α
  e : α
  f : α
  g : α
  h : α
abbrev E8 := N8 (N8 (N8 Value))
def get8 {α : Type} (i : Nat) (n : N8 α) : α := match i with
  | 0 => n.a
  | 1 => n.b
  | 2 => n.c
  | 3 => n.d
  | 4 => n.e
  | 5 => n.f
  | 6 => n.g
  | _ => n.h
def put8 {α : Type} (i : Nat) (x : α) (n : N8 α) : N8 α := match i with
  | 0 => { n with a := x }
  | 1 => { n with b := x }
  | 2 => { n with c := x }
  | 3 => { n with d := x }
  | 4 => { n with e := x }
  | 5 => { n with f := x }
  | 6 => { n with g := x }
  | _ => { n with h := x }
theorem get_put8 {α : Type} (i j : Nat) (x : α) (n : N8 α) (hi : i < 8) (hj : j < 8) : get8 j (put8 i x n) = if j = i then x else get8 j n := by
  match i, hi with
  | 0, _ | 1, _ | 2, _ | 3, _ | 4, _ | 5, _ | 6, _ | 7, _ => match j, hj with
    | 0, _ | 1, _ | 2, _ | 3, _ | 4, _ | 5, _ | 6, _ | 7, _ => rfl
structure KG (α β : Type) where
  g : α → β
structure KP (α : Type) where
  p : Value → α → α
section
variable {α : Type}
noncomputable def kgA (r : KG α Value) : N8 α → Value := fun n => r.g n.a
noncomputable def kgB (r : KG α Value) : N8 α → Value := fun n => r.g n.b
noncomputable def kgC (r : KG α Value) : N8 α → Value := fun n => r.g n.c
noncomputable def kgD (r : KG α Value) : N8 α → Value := fun n => r.g n.d
noncomputable def kgE (r : KG α Value) : N8 α → Value := fun n => r.g n.e
noncomputable def kgF (r : KG α Value) : N8 α → Value := fun n => r.g n.f
noncomputable def kgG (r : KG α Value) : N8 α → Value := fun n => r.g n.g
noncomputable def kgH (r : KG α Value) : N8 α → Value := fun n => r.g n.h
noncomputable def kSel (i : Nat) (r : KG α Value) : KG (N8 α) Value := match i with
  | 0 => ⟨kgA r⟩
  | 1 => ⟨kgB r⟩
  | 2 => ⟨kgC r⟩
  | 3 => ⟨kgD r⟩
  | 4 => ⟨kgE r⟩
  | 5 => ⟨kgF r⟩
  | 6 => ⟨kgG r⟩
  | _ => ⟨kgH r⟩
theorem kSel_eq (i : Nat) (r : KG α Value) (n : N8 α) : (kSel i r).g n = r.g (get8 i n) := by
  unfold kSel get8
  split <;> rfl
noncomputable def kpA (r : KP α) : Value → N8 α → N8 α := fun v n => @N8.rec α (fun _ => N8 α) (fun a b c d e f g h => ⟨r.p v a, b, c, d, e, f, g, h⟩) n
noncomputable def kpB (r : KP α) : Value → N8 α → N8 α := fun v n => @N8.rec α (fun _ => N8 α) (fun a b c d e f g h => ⟨a, r.p v b, c, d, e, f, g, h⟩) n
noncomputable def kpC (r : KP α) : Value → N8 α → N8 α := fun v n => @N8.rec α (fun _ => N8 α) (fun a b c d e f g h => ⟨a, b, r.p v c, d, e, f, g, h⟩) n
noncomputable def kpD (r : KP α) : Value → N8 α → N8 α := fun v n => @N8.rec α (fun _ => N8 α) (fun a b c d e f g h => ⟨a, b, c, r.p v d, e, f, g, h⟩) n
noncomputable def kpE (r : KP α) : Value → N8 α → N8 α := fun v n => @N8.rec α (fun _ => N8 α) (fun a b c d e f g h => ⟨a, b, c, d, r.p v e, f, g, h⟩) n
noncomputable def kpF (r : KP α) : Value → N8 α → N8 α := fun v n => @N8.rec α (fun _ => N8 α) (fun a b c d e f g h => ⟨a, b, c, d, e, r.p v f, g, h⟩) n
noncomputable def kpG (r : KP α) : Value → N8 α → N8 α := fun v n => @N8.rec α (fun _ => N8 α) (fun a b c d e f g h => ⟨a, b, c, d, e, f, r.p v g, h⟩) n
noncomputable def kpH (r : KP α) : Value → N8 α → N8 α := fun v n => @N8.rec α (fun _ => N8 α) (fun a b c d e f g h => ⟨a, b, c, d, e, f, g, r.p v h⟩) n
noncomputable def kIns (i : Nat) (r : KP α) : KP (N8 α) := match i with
  | 0 => ⟨kpA r⟩
  | 1 => ⟨kpB r⟩
  | 2 => ⟨kpC r⟩
  | 3 => ⟨kpD r⟩
  | 4 => ⟨kpE r⟩
  | 5 => ⟨kpF r⟩
  | 6 => ⟨kpG r⟩
  | _ => ⟨kpH r⟩
theorem kIns_eq (i : Nat) (r : KP α) (v : Value) (n : N8 α) : (kIns i r).p v n = put8 i (r.p v (get8 i n)) n := by
  match i with
  | 0 | 1 | 2 | 3 | 4 | 5 | 6 => rfl
  | n + 7 => rfl
end
noncomputable def kTmp (t : Nat) : KG E8 Value := cond (Nat.ble (Nat.succ t) (nat_lit 512)) (kSel (t / 64) (kSel (t / 8 % 8) (kSel (t % 8) ⟨fun v => v⟩))) ⟨fun _ => undef⟩
noncomputable def kPut (t : Nat) : KP E8 := kIns (t / 64) (kIns (t / 8 % 8) (kIns (t % 8) ⟨fun v _ => v⟩))
theorem kTmp_put (t u : Nat) (v : Value) (k : E8) (ht : t < 512) : (kTmp u).g ((kPut t).p v k) = if u = t then v else (kTmp u).g k := by
  unfold kTmp
  cases hb : Nat.ble (Nat.succ u) (nat_lit 512) with
  | false =>
    have : u ≠ t := fun e => by subst e; have := Nat.ble_eq_true_of_le (show Nat.succ u ≤ 512 from ht); rw [this] at hb; cases hb
    simp only [cond, if_neg this]
  | true =>
    have hu : u < 512 := Nat.le_of_ble_eq_true hb
    simp only [cond, kSel_eq, kPut, kIns_eq]
    rw [get_put8 _ _ _ _ (by omega) (by omega)]
    by_cases h1 : u / 64 = t / 64
    · rw [if_pos h1, get_put8 _ _ _ _ (by omega) (by omega)]
      by_cases h2 : u / 8 % 8 = t / 8 % 8
      · rw [if_pos h2, get_put8 _ _ _ _ (by omega) (by omega)]
        by_cases h3 : u % 8 = t % 8
        · rw [if_pos h3, if_pos (by omega)]
        · rw [if_neg h3, if_neg (by omega), h1, h2]
      · rw [if_neg h2, if_neg (by omega), h1]
    · rw [if_neg h1, if_neg (by omega)]
/-- the frames are the same -/
def FR (k : E8) (e : Tr Value) : Prop := ∀ t : Nat, (kTmp t).g k = (e.get t).getD undef
noncomputable def kU1 : N8 Value := ⟨undef, undef, undef, undef, undef, undef, undef, undef⟩
noncomputable def kU2 : N8 (N8 Value) := ⟨kU1, kU1, kU1, kU1, kU1, kU1, kU1, kU1⟩
noncomputable def kU3 : E8 := ⟨kU2, kU2, kU2, kU2, kU2, kU2, kU2, kU2⟩
theorem get8_same {α : Type} (x : α) (i : Nat) : get8 i ⟨x, x, x, x, x, x, x, x⟩ = x := by unfold get8; split <;> rfl
theorem FR.nil : FR kU3 .nil := fun t => by
  rw [Tr.get_nil]
  unfold kTmp
  cases Nat.ble (Nat.succ t) (nat_lit 512) with
  | false => rfl
  | true => simp only [cond, kSel_eq, kU3, kU2, kU1, get8_same]; rfl
theorem FR.put {k : E8} {e : Tr Value} (h : FR k e) {t : Nat} (ht : t < 512) (v : Value) : FR ((kPut t).p v k) (e.put t (some v)) := fun u => by
  rw [kTmp_put t u v k ht, Tr.get_put]
  by_cases hu : u = t
  · rw [if_pos hu, if_pos hu]; rfl
  · rw [if_neg hu, if_neg hu]; exact h u
noncomputable def kOpd (x : Operand) : KG E8 Value := match x with
  | .tmp t => kTmp t
  | .const v => ⟨fun _ => v⟩
  | .global g => ⟨fun _ => .pointer (some ⟨g, 0, none⟩)⟩
  | .func f => ⟨fun _ => .func (.func f) #[] #[]⟩
theorem FR.arg {k : E8} {e : Tr Value} (h : FR k e) (x : Operand) : (kOpd x).g k = aEval e x := by
  cases x with
  | tmp t => exact h t
  | _ => rfl

inductive KW where
  | fail
  | on (e : E8) (H : AHeap)
  | out (i : Nat) (e : E8) (H : AHeap)
  | back (e : E8) (H : AHeap)
def KW.opt : KW → Option (Way × E8 × AHeap)
  | .fail => none
  | .on e H => some (.on, e, H)
  | .out i e H => some (.out i, e, H)
  | .back e H => some (.back, e, H)
abbrev KF := CallFn → E8 → Nat → AHeap → KV
structure KB where
  f : KF
noncomputable def kof (r : Option (Value × AHeap)) : KV := @Option.rec _ (fun _ => KV) .fail (fun p => .ok p.1 p.2) r
theorem kof_opt (r : Option (Value × AHeap)) : (kof r).opt = r := by cases r <;> rfl
noncomputable def kov (r : Option Value) (H : AHeap) : KV := @Option.rec _ (fun _ => KV) .fail (fun v => .ok v H) r
theorem kov_opt (r : Option Value) (H : AHeap) : (kov r H).opt = r.map fun v => (v, H) := by cases r <;> rfl

/-! ### operands and views -/
noncomputable def vPtr : Value → Option Addr := @Value.rec (fun _ => Option Addr) (fun _ => Option Addr) (fun _ => Option Addr) (fun _ => none) (fun _ _ => none) (fun _ _ => none) (fun _ _ _ => none) (fun _ => none) (fun a => a) (fun _ _ _ => none) (fun _ => none) (fun _ => none) (fun _ _ _ _ _ => none) none (fun _ _ _ => none) none (fun _ _ => none) (fun _ _ => none) (fun _ _ => none) none (fun _ _ _ _ => none)
noncomputable def kPtr {β : Type} (v : Value) (d : β) (k : Nat → Nat → β) : β := @Option.rec Addr (fun _ => β) d (fun a => @Addr.rec (fun _ => β) (fun i o s => @Option.rec Nat (fun _ => β) (k i o) (fun _ => d) s) a) (vPtr v)
theorem kPtr_or (v : Value) : (∃ i o, v = .pointer (some ⟨i, o, none⟩) ∧ ∀ {β : Type} (d : β) k, kPtr v d k = k i o) ∨ ∀ {β : Type} (d : β) k, kPtr v d k = d := by
  cases v with
  | pointer a => cases a with
    | none => exact .inr fun _ _ => rfl
    | some a => obtain ⟨i, o, s⟩ := a; cases s with
      | none => exact .inl ⟨i, o, rfl, fun _ _ => rfl⟩
      | some _ => exact .inr fun _ _ => rfl
  | _ => exact .inr fun _ _ => rfl
structure KSl where
  a : Option Addr
  n : Nat
  c : Nat
noncomputable def vSl : Value → Option KSl := @Value.rec (fun _ => Option KSl) (fun _ => Option KSl) (fun _ => Option KSl) (fun _ => none) (fun _ _ => none) (fun _ _ => none) (fun _ _ _ => none) (fun _ => none) (fun _ => none) (fun a n c => some ⟨a, n, c⟩) (fun _ => none) (fun _ => none) (fun _ _ _ _ _ => none) none (fun _ _ _ => none) none (fun _ _ => none) (fun _ _ => none) (fun _ _ => none) none (fun _ _ _ _ => none)
theorem vSl_or (v : Value) : (∃ a n c, v = .slice a n c ∧ vSl v = some ⟨a, n, c⟩) ∨ vSl v = none := by
  cases v with
  | slice a n c => exact .inl ⟨a, n, c, rfl, rfl⟩
  | _ => exact .inr rfl
/-- a slice with a row -/
noncomputable def kSl {β : Type} (v : Value) (d : β) (k : Nat → Nat → Nat → Nat → β) : β := @Option.rec KSl (fun _ => β) d (fun s => @Option.rec Addr (fun _ => β) d (fun a => @Addr.rec (fun _ => β) (fun i o u => @Option.rec Nat (fun _ => β) (k i o s.n s.c) (fun _ => d) u) a) s.a) (vSl v)
theorem kSl_or (v : Value) : (∃ i o n c, v = .slice (some ⟨i, o, none⟩) n c ∧ ∀ {β : Type} (d : β) k, kSl v d k = k i o n c) ∨ ∀ {β : Type} (d : β) k, kSl v d k = d := by
  cases v with
  | slice a n c => cases a with
    | none => exact .inr fun _ _ => rfl
    | some a => obtain ⟨i, o, s⟩ := a; cases s with
      | none => exact .inl ⟨i, o, n, c, rfl, fun _ _ => rfl⟩
      | some _ => exact .inr fun _ _ => rfl
  | _ => exact .inr fun _ _ => rfl
noncomputable def vInt : Value → Option (IntKind × Int) := @Value.rec (fun _ => Option (IntKind × Int)) (fun _ => Option (IntKind × Int)) (fun _ => Option (IntKind × Int)) (fun _ => none) (fun k n => some (k, n)) (fun _ _ => none) (fun _ _ _ => none) (fun _ => none) (fun _ => none) (fun _ _ _ => none) (fun _ => none) (fun _ => none) (fun _ _ _ _ _ => none) none (fun _ _ _ => none) none (fun _ _ => none) (fun _ _ => none) (fun _ _ => none) none (fun _ _ _ _ => none)
/-- a number that is not below nought -/
noncomputable def kNat {β : Type} (v : Value) (d : β) (k : IntKind → Nat → β) : β := @Option.rec (IntKind × Int) (fun _ => β) d (fun p => @Int.rec (fun _ => β) (fun n => k p.1 n) (fun _ => d) p.2) (vInt v)
theorem kNat_or (v : Value) : (∃ t n, v = .int t (.ofNat n) ∧ ∀ {β : Type} (d : β) k, kNat v d k = k t n) ∨ ∀ {β : Type} (d : β) k, kNat v d k = d := by
  cases v with
  | int t n => cases n with
    | ofNat n => exact .inl ⟨t, n, rfl, fun _ _ => rfl⟩
    | negSucc _ => exact .inr fun _ _ => rfl
  | _ => exact .inr fun _ _ => rfl
noncomputable def vBool : Value → Option Bool := @Value.rec (fun _ => Option Bool) (fun _ => Option Bool) (fun _ => Option Bool) (fun b => some b) (fun _ _ => none) (fun _ _ => none) (fun _ _ _ => none) (fun _ => none) (fun _ => none) (fun _ _ _ => none) (fun _ => none) (fun _ => none) (fun _ _ _ _ _ => none) none (fun _ _ _ => none) none (fun _ _ => none) (fun _ _ => none) (fun _ _ => none) none (fun _ _ _ _ => none)
noncomputable def kBool {β : Type} (v : Value) (d : β) (k : Bool → β) : β := @Option.rec Bool (fun _ => β) d k (vBool v)
theorem kBool_or (v : Value) : (∃ b, v = .bool b ∧ ∀ {β : Type} (d : β) k, kBool v d k = k b) ∨ ((∀ b, v ≠ .bool b) ∧ ∀ {β : Type} (d : β) k, kBool v d k = d) := by
  cases v with
  | bool b => exact .inl ⟨b, rfl, fun _ _ => rfl⟩
  | _ => exact .inr ⟨fun _ => by simp, fun _ _ => rfl⟩
noncomputable def vStr : Value → Option (List UInt8) := @Value.rec (fun _ => Option (List UInt8)) (fun _ => Option (List UInt8)) (fun _ => Option (List UInt8)) (fun _ => none) (fun _ _ => none) (fun _ _ => none) (fun _ _ _ => none) (fun s => some s.1.1) (fun _ => none) (fun _ _ _ => none) (fun _ => none) (fun _ => none) (fun _ _ _ _ _ => none) none (fun _ _ _ => none) none (fun _ _ => none) (fun _ _ => none) (fun _ _ => none) none (fun _ _ _ _ => none)
noncomputable def kStr {β : Type} (v : Value) (d : β) (k : List UInt8 → β) : β := @Option.rec (List UInt8) (fun _ => β) d k (vStr v)
theorem kStr_or (v : Value) : (∃ l, v = str l ∧ ∀ {β : Type} (d : β) k, kStr v d k = k l) ∨ ∀ {β : Type} (d : β) k, kStr v d k = d := by
  cases v with
  | string s => exact .inl ⟨s.1.1, rfl, fun _ _ => rfl⟩
  | _ => exact .inr fun _ _ => rfl
noncomputable def vAgg : Value → Option (List Value) := @Value.rec (fun _ => Option (List Value)) (fun _ => Option (List Value)) (fun _ => Option (List Value)) (fun _ => none) (fun _ _ => none) (fun _ _ => none) (fun _ _ _ => none) (fun _ => none) (fun _ => none) (fun _ _ _ => none) (fun _ => none) (fun _ => none) (fun _ _ _ _ _ => none) none (fun _ _ _ => none) none (fun a _ => some a.1) (fun _ _ => none) (fun _ _ => none) none (fun _ _ _ _ => none)
noncomputable def kAgg {β : Type} (v : Value) (d : β) (k : List Value → β) : β := @Option.rec (List Value) (fun _ => β) d k (vAgg v)
theorem kAgg_or (v : Value) : (∃ l, v = .agg ⟨l⟩ ∧ ∀ {β : Type} (d : β) k, kAgg v d k = k l) ∨ ((∀ a, v ≠ .agg a) ∧ ∀ {β : Type} (d : β) k, kAgg v d k = d) := by
  cases v with
  | agg a => exact .inl ⟨a.1, rfl, fun _ _ => rfl⟩
  | _ => exact .inr ⟨fun _ => by simp, fun _ _ => rfl⟩
noncomputable def vTup : Value → Option (List Value) := @Value.rec (fun _ => Option (List Value)) (fun _ => Option (List Value)) (fun _ => Option (List Value)) (fun _ => none) (fun _ _ => none) (fun _ _ => none) (fun _ _ _ => none) (fun _ => none) (fun _ => none) (fun _ _ _ => none) (fun _ => none) (fun _ => none) (fun _ _ _ _ _ => none) none (fun _ _ _ => none) none (fun _ _ => none) (fun a _ => some a.1) (fun _ _ => none) none (fun _ _ _ _ => none)
noncomputable def kTup {β : Type} (v : Value) (d : β) (k : List Value → β) : β := @Option.rec (List Value) (fun _ => β) d k (vTup v)
theorem kTup_or (v : Value) : (∃ l, v = .tuple ⟨l⟩ ∧ ∀ {β : Type} (d : β) k, kTup v d k = k l) ∨ ((∀ a, v ≠ .tuple a) ∧ ∀ {β : Type} (d : β) k, kTup v d k = d) := by
  cases v with
  | tuple a => exact .inl ⟨a.1, rfl, fun _ _ => rfl⟩
  | _ => exact .inr ⟨fun _ => by simp, fun _ _ => rfl⟩
noncomputable def kRow {β : Type} (H : AHeap) (i : Nat) (d : β) (k : List Value → TypeId → Nat → Bool → β) : β := @Option.rec AObj (fun _ => β) d (fun o => @AObj.rec (fun _ => β) k (fun _ _ => d) (fun _ _ => d) o) (kget H.objs i)
theorem kRow_or (H : AHeap) (i : Nat) : (∃ cells t s w, H.get i = some (.row cells t s w) ∧ ∀ {β : Type} (d : β) k, kRow H i d k = k cells t s w) ∨ ∀ {β : Type} (d : β) k, kRow H i d k = d := by
  unfold kRow
  rw [kget_eq]
  show (∃ cells t s w, H.get i = some (.row cells t s w) ∧ ∀ {β : Type} (d : β) k, @Option.rec AObj (fun _ => β) d (fun o => @AObj.rec (fun _ => β) k (fun _ _ => d) (fun _ _ => d) o) (H.get i) = k cells t s w) ∨ ∀ {β : Type} (d : β) k, @Option.rec AObj (fun _ => β) d (fun o => @AObj.rec (fun _ => β) k (fun _ _ => d) (fun _ _ => d) o) (H.get i) = d
  cases H.get i with
  | none => exact .inr fun _ _ => rfl
  | some o => cases o with
    | row c t s w => exact .inl ⟨c, t, s, w, rfl, fun _ _ => rfl⟩
    | _ => exact .inr fun _ _ => rfl
/-- a number made out -/
noncomputable def kforce {β : Type} (n : Nat) (k : Nat → β) : β := @Nat.rec (fun _ => β) (k Nat.zero) (fun m _ => k (Nat.succ m)) n
theorem kforce_eq {β : Type} (n : Nat) (k : Nat → β) : kforce n k = k n := by cases n <;> rfl
end Go.Proofs.YtmkmdppjfdphnaaGreatDoor
