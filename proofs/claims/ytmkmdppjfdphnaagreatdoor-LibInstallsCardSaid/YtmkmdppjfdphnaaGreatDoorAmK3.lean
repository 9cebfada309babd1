/- The machine made ready for the kernel: numbers, strings, stores, calls. -/
import Derived.Test.YtmkmdppjfdphnaaGreatDoorAmK2
set_option linter.unusedSimpArgs false
set_option linter.unusedVariables false
namespace Go.Proofs.YtmkmdppjfdphnaaGreatDoor
open Go.RowKit
section
variable {P : Program} {o : Oper} {x y c : Operand} {op : BinOp} {t u : TypeId} {call : CallFn} {e : Tr Value} {fid : Nat} {H : AHeap} {v : Value}
theorem got_eq1 {α : Type} {r : Option α} {a : α} (h : Got r fun b => b = a) : r = some a := by obtain ⟨b, h1, rfl⟩ := h; exact h1
theorem step_bin (ho : o.op = .binOp op t x y u) (h : binV P op t (qT x) (qT y) (aEval e x) (aEval e y) = some v) : aStep P call (aEval e) o fid H = some (v, H) := by
  have h1 := @qs P call e fid H (fun q => q = (v, H)) o.dst o.type o.pos o.after o.guard op t u x y
  have ho' : (⟨o.dst, .binOp op t x y u, o.type, o.pos, o.after, o.guard⟩ : Oper) = o := by cases o; simp only at ho; rw [ho]
  rw [ho', h] at h1
  exact got_eq1 (h1 ▸ ⟨v, rfl, rfl⟩)
noncomputable def kNo (k : IntKind) : Nat := @IntKind.rec (fun _ => Nat) (nat_lit 0) (nat_lit 1) (nat_lit 2) (nat_lit 3) (nat_lit 4) (nat_lit 5) (nat_lit 6) (nat_lit 7) k
theorem kNo_inj {a b : IntKind} (h : Nat.beq (kNo a) (kNo b) = true) : a = b := by cases a <;> cases b <;> first | rfl | cases h
/-- two numbers of one kind, neither below nought, compared -/
noncomputable def kCmp (f : Nat → Nat → Bool) (x y : KG E8 Value) (g : KF) : KF := fun call e fid H => kNat (x.g e) (g call e fid H) fun k a => kNat (y.g e) (g call e fid H) fun k' b =>
  @Bool.rec (fun _ => KV) (g call e fid H) (@Bool.rec (fun _ => KV) (.ok (.bool false) H) (.ok (.bool true) H) (f a b)) (Nat.beq (kNo k) (kNo k'))
def CmpIs (P : Program) (op : BinOp) (t : TypeId) (f : Nat → Nat → Bool) : Prop := ∀ cx cy k a b, binV P op t cx cy (.int k (.ofNat a)) (.int k (.ofNat b)) = some (.bool (f a b))
theorem kCmp_ok {f : Nat → Nat → Bool} {g : KF} (ho : o.op = .binOp op t x y u) (hf : CmpIs P op t f) (hg : KOk P o g) : KOk P o (kCmp f (kOpd x) (kOpd y) g) := fun call k8 e fid H r hR h => by
  unfold kCmp at h; rw [hR.arg, hR.arg] at h
  rcases kNat_or (aEval e x) with ⟨k, a, hx, hk⟩ | hk
  · rw [hk] at h
    rcases kNat_or (aEval e y) with ⟨k', b, hy, hk2⟩ | hk2
    · rw [hk2] at h
      cases hb : Nat.beq (kNo k) (kNo k') with
      | false => rw [hb] at h; exact hg _ _ _ _ _ _ hR h
      | true =>
        rw [hb] at h
        have := kNo_inj hb
        subst this
        rw [step_bin ho (v := .bool (f a b)) (by rw [hx, hy]; exact hf _ _ _ _ _), ← h]
        cases f a b <;> rfl
    · rw [hk2] at h; exact hg _ _ _ _ _ _ hR h
  · rw [hk] at h; exact hg _ _ _ _ _ _ hR h
noncomputable def fEql (a b : Nat) : Bool := Nat.beq a b
noncomputable def fNeq (a b : Nat) : Bool := @Bool.rec (fun _ => Bool) true false (Nat.beq a b)
noncomputable def fLss (a b : Nat) : Bool := Nat.ble (Nat.succ a) b
noncomputable def fLeq (a b : Nat) : Bool := Nat.ble a b
noncomputable def fGtr (a b : Nat) : Bool := Nat.ble (Nat.succ b) a
noncomputable def fGeq (a b : Nat) : Bool := Nat.ble b a
theorem beq_dec (a b : Nat) : Nat.beq a b = decide ((Int.ofNat a) = Int.ofNat b) := by
  cases h : Nat.beq a b with
  | true => have := Nat.eq_of_beq_eq_true h; subst this; simp
  | false => symm; rw [decide_eq_false_iff_not]; intro e; have := Int.ofNat.inj e; subst this; rw [Nat.beq_refl] at h; cases h
theorem ble_dec (a b : Nat) : Nat.ble a b = decide ((Int.ofNat a) ≤ Int.ofNat b) := by
  cases h : Nat.ble a b with
  | true => have := Nat.le_of_ble_eq_true h; symm; rw [decide_eq_true_iff]; exact Int.ofNat_le.2 this
  | false => symm; rw [decide_eq_false_iff_not]; intro e; have := Nat.ble_eq_true_of_le (Int.ofNat_le.1 e); rw [this] at h; cases h
theorem blt_dec (a b : Nat) : Nat.ble (Nat.succ a) b = decide ((Int.ofNat a) < Int.ofNat b) := by rw [ble_dec]; rfl
theorem is_eql : CmpIs P .eql t fEql := fun cx cy k a b => by rw [jC]; unfold fEql; rw [beq_dec]
theorem is_neq : CmpIs P .neq t fNeq := fun cx cy k a b => by rw [jD]; unfold fNeq; rw [beq_dec]; cases decide ((Int.ofNat a) = Int.ofNat b) <;> rfl
theorem is_lss : CmpIs P .lss t fLss := fun cx cy k a b => by rw [jy]; unfold fLss; rw [blt_dec]
theorem is_leq : CmpIs P .leq t fLeq := fun cx cy k a b => by rw [jz]; unfold fLeq; rw [ble_dec]
theorem is_gtr : CmpIs P .gtr t fGtr := fun cx cy k a b => by rw [jA]; unfold fGtr; rw [blt_dec]
theorem is_geq : CmpIs P .geq t fGeq := fun cx cy k a b => by rw [jB]; unfold fGeq; rw [ble_dec]
/-- is 64 bits, both -/
noncomputable def k64 (k k' : IntKind) : Bool := @Bool.rec (fun _ => Bool) false (Nat.beq (kNo k') (nat_lit 3)) (Nat.beq (kNo k) (nat_lit 3))
theorem k64_eq {k k' : IntKind} (h : k64 k k' = true) : k = .i64 ∧ k' = .i64 := by cases k <;> cases k' <;> first | exact ⟨rfl, rfl⟩ | cases h
theorem wrap_nat {n : Nat} (h : Nat.ble n 9223372036854775807 = true) : IntKind.i64.wrap (Int.ofNat n) = Int.ofNat n := by
  have h := Nat.le_of_ble_eq_true h
  have e1 : (Int.ofNat n) % (2 ^ (64 : Nat) : Int) = Int.ofNat n := Int.emod_eq_of_lt (Int.natCast_nonneg n) (by have : (Int.ofNat n) ≤ 9223372036854775807 := Int.ofNat_le.2 h; omega)
  show (let m := (Int.ofNat n) % (2 ^ (64 : Nat) : Int); if (true && decide (m ≥ (2 ^ (63 : Nat) : Int))) = true then m - (2 ^ (64 : Nat) : Int) else m) = _
  rw [e1]
  have : ¬ (Int.ofNat n) ≥ (2 ^ (63 : Nat) : Int) := by have : (Int.ofNat n) ≤ 9223372036854775807 := Int.ofNat_le.2 h; omega
  simp only [this, decide_false, Bool.and_false, Bool.false_eq_true, if_false]
/-- two numbers of 64 bits, neither below nought: what f tells, if it is small enough -/
noncomputable def kArith (ok : Nat → Nat → Bool) (f : Nat → Nat → Nat) (x y : KG E8 Value) (g : KF) : KF := fun call e fid H => kNat (x.g e) (g call e fid H) fun k a => kNat (y.g e) (g call e fid H) fun k' b =>
  @Bool.rec (fun _ => KV) (g call e fid H) (@Bool.rec (fun _ => KV) (g call e fid H) (kforce (f a b) fun n => @Bool.rec (fun _ => KV) (g call e fid H) (.ok (.int .i64 (.ofNat n)) H) (Nat.ble n (nat_lit 9223372036854775807))) (ok a b)) (k64 k k')
def ArithIs (P : Program) (op : BinOp) (t : TypeId) (ok : Nat → Nat → Bool) (f : Nat → Nat → Nat) : Prop := ∀ cx cy a b, ok a b = true → Nat.ble (f a b) 9223372036854775807 = true → binV P op t cx cy (.int .i64 (.ofNat a)) (.int .i64 (.ofNat b)) = some (.int .i64 (.ofNat (f a b)))
theorem kArith_ok {ok : Nat → Nat → Bool} {f : Nat → Nat → Nat} {g : KF} (ho : o.op = .binOp op t x y u) (hf : ArithIs P op t ok f) (hg : KOk P o g) : KOk P o (kArith ok f (kOpd x) (kOpd y) g) := fun call k8 e fid H r hR h => by
  unfold kArith at h; rw [hR.arg, hR.arg] at h
  rcases kNat_or (aEval e x) with ⟨k, a, hx, hk⟩ | hk
  · rw [hk] at h
    rcases kNat_or (aEval e y) with ⟨k', b, hy, hk2⟩ | hk2
    · rw [hk2] at h
      cases hb : k64 k k' with
      | false => rw [hb] at h; exact hg _ _ _ _ _ _ hR h
      | true =>
        rw [hb] at h
        obtain ⟨rfl, rfl⟩ := k64_eq hb
        cases hc : ok a b with
        | false => rw [hc] at h; exact hg _ _ _ _ _ _ hR h
        | true =>
          rw [hc] at h
          change (kforce _ _ : KV).opt = _ at h
          rw [kforce_eq] at h
          cases hl : Nat.ble (f a b) 9223372036854775807 with
          | false => rw [hl] at h; exact hg _ _ _ _ _ _ hR h
          | true =>
            rw [hl] at h
            rw [step_bin ho (v := .int .i64 (.ofNat (f a b))) (by rw [hx, hy]; exact hf _ _ _ _ hc hl), ← h]; rfl
    · rw [hk2] at h; exact hg _ _ _ _ _ _ hR h
  · rw [hk] at h; exact hg _ _ _ _ _ _ hR h
noncomputable def okAny (_ _ : Nat) : Bool := true
noncomputable def okSub (a b : Nat) : Bool := Nat.ble b a
noncomputable def okDiv (_ b : Nat) : Bool := Nat.ble (nat_lit 1) b
theorem is_add : ArithIs P .add t okAny Nat.add := fun cx cy a b _ h => by
  rw [jv, show (Int.ofNat a + Int.ofNat b) = Int.ofNat (Nat.add a b) from rfl, wrap_nat h]
theorem is_sub : ArithIs P .sub t okSub Nat.sub := fun cx cy a b hc h => by
  have := Nat.le_of_ble_eq_true hc
  rw [jw, show (Int.ofNat a - Int.ofNat b) = Int.ofNat (Nat.sub a b) from (Int.ofNat_sub this).symm, wrap_nat h]
theorem is_mul : ArithIs P .mul t okAny Nat.mul := fun cx cy a b _ h => by
  rw [jx, show (Int.ofNat a * Int.ofNat b) = Int.ofNat (Nat.mul a b) from rfl, wrap_nat h]
/-! ### strings -/
noncomputable def kleq (l : List UInt8) : List UInt8 → Bool := @List.rec UInt8 (fun _ => List UInt8 → Bool) (fun m => @List.rec UInt8 (fun _ => Bool) true (fun _ _ _ => false) m)
  (fun a _ ih m => @List.rec UInt8 (fun _ => Bool) false (fun b u _ => @Bool.rec (fun _ => Bool) false (ih u) (Nat.beq a.toBitVec.toFin.1 b.toBitVec.toFin.1)) m) l
theorem kleq_eq : ∀ l m, kleq l m = decide (l = m)
  | [], [] => rfl
  | [], b :: m => rfl
  | a :: l, [] => rfl
  | a :: l, b :: m => by
    show @Bool.rec (fun _ => Bool) false (kleq l m) (Nat.beq a.toBitVec.toFin.1 b.toBitVec.toFin.1) = _
    rw [kleq_eq l m]
    cases hb : Nat.beq a.toBitVec.toFin.1 b.toBitVec.toFin.1 with
    | true =>
      have : a = b := UInt8.toNat.inj (Nat.eq_of_beq_eq_true hb)
      subst this; simp
    | false =>
      have : a ≠ b := fun e => by subst e; rw [Nat.beq_refl] at hb; cases hb
      simp [this]
noncomputable def kEqS (neg : Bool) (x y : KG E8 Value) (g : KF) : KF := fun call e fid H => kStr (x.g e) (g call e fid H) fun l => kStr (y.g e) (g call e fid H) fun m => @Bool.rec (fun _ => KV) (.ok (.bool neg) H) (.ok (.bool (@Bool.rec (fun _ => Bool) true false neg)) H) (kleq l m)
theorem kEqS_ok {neg : Bool} {g : KF} (ho : o.op = .binOp op t x y u) (hop : op = cond neg .neq .eql) (hg : KOk P o g) : KOk P o (kEqS neg (kOpd x) (kOpd y) g) := fun call k8 e fid H r hR h => by
  unfold kEqS at h; rw [hR.arg, hR.arg] at h
  rcases kStr_or (aEval e x) with ⟨l, hx, hk⟩ | hk
  · rw [hk] at h
    rcases kStr_or (aEval e y) with ⟨m, hy, hk2⟩ | hk2
    · rw [hk2, kleq_eq] at h
      subst hop
      cases neg with
      | false => rw [step_bin ho (v := .bool (decide (l = m))) (by rw [hx, hy]; exact Jx l m), ← h]; cases decide (l = m) <;> rfl
      | true => rw [step_bin ho (v := .bool (!decide (l = m))) (by rw [hx, hy]; exact Jy l m), ← h]; cases decide (l = m) <;> rfl
    · rw [hk2] at h; exact hg _ _ _ _ _ _ hR h
  · rw [hk] at h; exact hg _ _ _ _ _ _ hR h
/-! ### one operand -/
noncomputable def kNot (x : KG E8 Value) (g : KF) : KF := fun call e fid H => kBool (x.g e) (g call e fid H) fun b => @Bool.rec (fun _ => KV) (.ok (.bool true) H) (.ok (.bool false) H) b
theorem kNot_ok {g : KF} (ho : o.op = .unOp .not t x) (hg : KOk P o g) : KOk P o (kNot (kOpd x) g) := fun call k8 e fid H r hR h => by
  unfold kNot at h; rw [hR.arg] at h
  rcases kBool_or (aEval e x) with ⟨b, hx, hk⟩ | ⟨_, hk⟩
  · rw [hk] at h
    have h1 := @Jc P call e fid H (fun q => q = (.bool (!b), H)) o.dst o.type t o.pos o.after o.guard x .not
    have ho' : (⟨o.dst, .unOp .not t x, o.type, o.pos, o.after, o.guard⟩ : Oper) = o := by cases o; simp only at ho; rw [ho]
    rw [ho', hx, Jd] at h1
    have h2 : aStep P call (aEval e) o fid H = some (.bool (!b), H) := got_eq1 (by rw [h1]; exact ⟨_, rfl, rfl⟩)
    rw [h2, ← h]
    cases b <;> rfl
  · rw [hk] at h; exact hg _ _ _ _ _ _ hR h
/-- numbers below this stay as they are -/
noncomputable def kLim (k : IntKind) : Nat := Nat.pow (nat_lit 2) (k.bits - 1)
theorem wrap_lim {k : IntKind} {n : Nat} (h : Nat.ble (Nat.succ n) (kLim k) = true) : k.wrap (Int.ofNat n) = Int.ofNat n := by
  have h := Nat.le_of_ble_eq_true h
  have key : ∀ (b : Nat) (s : Bool), 1 ≤ b → Nat.succ n ≤ Nat.pow 2 (b - 1) → (let m := (Int.ofNat n) % (2 ^ b : Int); if (s && decide (m ≥ (2 ^ (b - 1) : Int))) = true then m - (2 ^ b : Int) else m) = Int.ofNat n := fun b s hb hn => by
    have h1 : (Int.ofNat n) < (2 ^ (b - 1) : Int) := by
      have : (Int.ofNat (Nat.succ n)) ≤ Int.ofNat (2 ^ (b - 1)) := Int.ofNat_le.2 hn
      have e : Int.ofNat (2 ^ (b - 1)) = (2 ^ (b - 1) : Int) := by show ((2 ^ (b - 1) : Nat) : Int) = _; norm_cast
      rw [e] at this
      exact Int.lt_of_lt_of_le (Int.lt_succ _) this
    have h2 : (2 ^ (b - 1) : Int) ≤ (2 ^ b : Int) := by
      obtain ⟨c, rfl⟩ : ∃ c, b = c + 1 := ⟨b - 1, by omega⟩
      have : (2 ^ (c + 1) : Int) = 2 ^ c * 2 := Int.pow_succ ..
      have hp : (0 : Int) ≤ 2 ^ c := Int.le_of_lt (Int.pow_pos (by omega))
      simp only [Nat.add_sub_cancel]
      omega
    have e1 : (Int.ofNat n) % (2 ^ b : Int) = Int.ofNat n := Int.emod_eq_of_lt (Int.natCast_nonneg n) (Int.lt_of_lt_of_le h1 h2)
    have h3 : ¬ (Int.ofNat n) ≥ (2 ^ (b - 1) : Int) := Int.not_le.2 h1
    simp only [e1, h3, decide_false, Bool.and_false, Bool.false_eq_true, if_false]
  exact key k.bits k.signed (by cases k <;> decide) h
noncomputable def kConv (k : IntKind) (lim : Nat) (x : KG E8 Value) (g : KF) : KF := fun call e fid H => kNat (x.g e) (g call e fid H) fun _ n => @Bool.rec (fun _ => KV) (g call e fid H) (.ok (.int k (.ofNat n)) H) (Nat.ble (Nat.succ n) lim)
theorem kConv_ok {s d : TypeId} {k : IntKind} {td : TypeDesc} {g : KF} (ho : o.op = .convert s d x) (hs : P.underlying s = some td) (hd : P.underlying d = some (.int k)) (hg : KOk P o g) : KOk P o (kConv k (kLim k) (kOpd x) g) := fun call k8 e fid H r hR h => by
  unfold kConv at h; rw [hR.arg] at h
  rcases kNat_or (aEval e x) with ⟨k', n, hx, hk⟩ | hk
  · rw [hk] at h
    cases hl : Nat.ble (Nat.succ n) (kLim k) with
    | false => rw [hl] at h; exact hg _ _ _ _ _ _ hR h
    | true =>
      rw [hl] at h
      have h1 := @Jv P call (aEval e) fid H (fun q => q = (.int k (.ofNat n), H)) o.dst o.type o.pos o.after o.guard x s d (by rw [hx]; rfl)
      have ho' : (⟨o.dst, .convert s d x, o.type, o.pos, o.after, o.guard⟩ : Oper) = o := by cases o; simp only at ho; rw [ho]
      rw [ho', hx, cvS_int hs hd, wrap_lim hl] at h1
      have h2 : aStep P call (aEval e) o fid H = some (.int k (.ofNat n), H) := got_eq1 (by rw [h1]; exact ⟨_, rfl, rfl⟩)
      rw [h2, ← h]; rfl
  · rw [hk] at h; exact hg _ _ _ _ _ _ hR h
/-! ### how long -/
noncomputable def klen {α : Type} (l : List α) : Nat := @List.rec α (fun _ => Nat) Nat.zero (fun _ _ ih => Nat.succ ih) l
theorem klen_eq {α : Type} : ∀ l : List α, klen l = l.length
  | [] => rfl
  | a :: l => congrArg Nat.succ (klen_eq l)
theorem step_len (ho : o.op = .call { callee := .builtin .len, args := #[x], argTypes := #[t] }) (h : lenV P t o.type (qT x) (aEval e x) H = some v) : aStep P call (aEval e) o fid H = some (v, H) := by
  have h1 := @Jb P call e fid H (fun q => q = (v, H)) o.dst o.type t o.pos o.after o.guard x
  have ho' : (⟨o.dst, .call { callee := .builtin .len, args := #[x], argTypes := #[t] }, o.type, o.pos, o.after, o.guard⟩ : Oper) = o := by cases o; simp only at ho; rw [ho]
  rw [ho', h] at h1
  exact got_eq1 (h1 ▸ ⟨v, rfl, rfl⟩)
noncomputable def kLenSl (x : KG E8 Value) : KF := fun _ e _ H => @Option.rec KSl (fun _ => KV) .fail (fun s => kforce s.n fun n => .ok (.int .i64 (.ofNat n)) H) (vSl (x.g e))
theorem kLenSl_ok {el : TypeId} (ho : o.op = .call { callee := .builtin .len, args := #[x], argTypes := #[t] }) (hu : P.underlying t = some (.slice el)) : KOk P o (kLenSl (kOpd x)) := fun call k8 e fid H r hR h => by
  unfold kLenSl at h; rw [hR.arg] at h
  rcases vSl_or (aEval e x) with ⟨a, n, c, hx, hv⟩ | hv
  · rw [hv] at h
    change (kforce _ _ : KV).opt = _ at h
    rw [kforce_eq] at h
    rw [step_len ho (v := .int .i64 (.ofNat n)) (by rw [hx]; exact lenV_slice hu a n c), ← h]; rfl
  · rw [hv] at h; cases h
noncomputable def kLenStr (x : KG E8 Value) : KF := fun _ e _ H => kStr (x.g e) .fail fun l => kforce (klen l) fun n => .ok (.int .i64 (.ofNat n)) H
theorem kLenStr_ok (ho : o.op = .call { callee := .builtin .len, args := #[x], argTypes := #[t] }) (hu : P.underlying t = some .string) : KOk P o (kLenStr (kOpd x)) := fun call k8 e fid H r hR h => by
  unfold kLenStr at h; rw [hR.arg] at h
  rcases kStr_or (aEval e x) with ⟨l, hx, hk⟩ | hk
  · rw [hk, kforce_eq, klen_eq] at h
    rw [step_len ho (v := .int .i64 (.ofNat l.length)) (by rw [hx]; exact lenV_string hu _), ← h]; rfl
  · rw [hk] at h; cases h
/-! ### a function called -/
noncomputable def kCall (g : FuncId) (args : List (KG E8 Value)) : KF := fun call e _ H => kof (call g (kmap (fun x => x.g e) args) H)
theorem args_eq {k8 : E8} {e : Tr Value} (hR : FR k8 e) : ∀ l : List Operand, kmap (fun x : KG E8 Value => x.g k8) (l.map kOpd) = l.map (aEval e)
  | [] => rfl
  | x :: l => by
    show (kOpd x).g k8 :: kmap (fun x : KG E8 Value => x.g k8) (l.map kOpd) = _
    rw [args_eq hR l, hR.arg]; rfl
theorem kCall_ok {g : FuncId} {args : Array Operand} {ts : Array TypeId} (ho : o.op = .call { callee := .value (.func g), args := args, argTypes := ts }) (hc : codeOf P g = true) : KOk P o (kCall g (args.toList.map kOpd)) := fun call k8 e fid H r hR h => by
  unfold kCall at h
  rw [kof_opt, args_eq hR] at h
  have h1 := @qu P call (aEval e) fid H (fun q => q = r) o.dst o.type o.pos o.after o.guard (.func g) args ts
  have ho' : (⟨o.dst, .call { callee := .value (.func g), args := args, argTypes := ts }, o.type, o.pos, o.after, o.guard⟩ : Oper) = o := by cases o; simp only at ho; rw [ho]
  rw [ho', show aEval e (.func g) = .func (.func g) #[] #[] from rfl, calleeV_func g #[] #[] hc, qL] at h1
  exact got_eq1 (h1 ▸ ⟨r, by simpa using h, rfl⟩)
/-! ### new blocks -/
noncomputable def kAlloc (t : TypeId) (cells : List Value) : KF := fun _ _ fid H => kforce fid fun i => .ok (.pointer (some ⟨i, Nat.zero, none⟩)) (kadd H i (.row cells t Nat.zero true))
theorem kAlloc_ok {inf : TypeInfo} {z : Value} (ho : o.op = .alloc t) (hi : P.info? t = some inf) (hz : inf.zero = some z) (hf : flat2 z = true) : KOk P o (kAlloc t z.cells.toList) := fun call k8 e fid H r hR h => by
  unfold kAlloc at h; rw [kforce_eq, kadd_eq] at h
  simp only [aStep, aSimple, ho, hi, hz, hf, cond]; exact h
noncomputable def kCells (v : Value) : List Value := @Option.rec (List Value) (fun _ => List Value) [v] (fun l => l) (vAgg v)
theorem kCells_eq (v : Value) : kCells v = v.cells.toList := by
  unfold kCells
  cases v <;> rfl
noncomputable def kBox (t : TypeId) (x : KG E8 Value) : KF := fun _ e fid H => kforce fid fun i => .ok (.pointer (some ⟨i, Nat.zero, none⟩)) (kadd H i (.row (kCells (x.g e)) t Nat.zero true))
theorem kBox_ok (ho : o.op = .box t x) : KOk P o (kBox t (kOpd x)) := fun call k8 e fid H r hR h => by
  unfold kBox at h; rw [kforce_eq, kadd_eq, hR.arg, kCells_eq] at h
  simp only [aStep, aSimple, ho]; exact h
end
end Go.Proofs.YtmkmdppjfdphnaaGreatDoor
