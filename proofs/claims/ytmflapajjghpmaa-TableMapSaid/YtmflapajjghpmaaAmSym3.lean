/- Running the abstract machine on values and memories that are not known whole: memory and calls. No program in sight. -/
import Derived.Test.YtmflapajjghpmaaAmSym2
namespace Go.Proofs.Ytmflapajjghpmaa
open Go.RowKit

/-! ### rows -/
def rowAt (H : AHeap) (i : Nat) : Option (List Value) := match H.get i with
  | some (.row c _ _ _) => some c
  | _ => none
/-- how many cells a value of a type has, if it is put together -/
def aggSize (P : Program) (t : TypeId) : Option (Option Nat) := match P.underlying t with
  | some d => cond (aggT d) ((P.info? t).map fun i => some i.size) (some none)
  | none => none
section
variable {P : Program} {t : TypeId} {n i o : Nat} {H : AHeap}
theorem aLoad_agg (h : aggSize P t = some (some n)) : aLoad P t (.pointer (some ⟨i, o, none⟩)) H = (rowAt H i).bind fun c => (cut c o n).map fun l => .agg l.toArray := by
  unfold aggSize at h
  simp only [aLoad, rowAt]
  split at h
  · rename_i d hd
    cases ha : aggT d with
    | false => rw [ha] at h; cases h
    | true =>
      rw [ha] at h
      simp only [cond] at h
      obtain ⟨inf, h1, h2⟩ := Option.map_eq_some_iff.1 h
      cases h2
      cases H.get i with
      | none => rfl
      | some ob => cases ob <;> simp only [Option.bind_some, Option.bind_none, h1, ha, cond, hd]
  · cases h
theorem aLoad_one (h : aggSize P t = some none) : aLoad P t (.pointer (some ⟨i, o, none⟩)) H = (rowAt H i).bind fun c => c[o]? := by
  unfold aggSize at h
  simp only [aLoad, rowAt]
  split at h
  · rename_i d hd
    cases ha : aggT d with
    | true =>
      rw [ha] at h
      simp only [cond] at h
      obtain ⟨inf, h1, h2⟩ := Option.map_eq_some_iff.1 h
      cases h2
    | false =>
      cases H.get i with
      | none => rfl
      | some ob => cases ob <;> simp only [Option.bind_some, Option.bind_none, ha, cond, hd]
  · cases h
end
theorem cut_two (a b : Value) : cut [a, b] 0 2 = some [a, b] := rfl
theorem cut_in {cells l : List Value} {o n : Nat} (h : l.length = n) (pre post : List Value) (hp : pre.length = o) (e : cells = pre ++ (l ++ post)) : cut cells o n = some l := by
  subst hp; subst h; subst e
  simp [cut]

def sizeT (P : Program) (t : TypeId) : Option Nat := (P.info? t).map fun i => i.size
def ownRow (H : AHeap) (i : Nat) : Option (List Value × TypeId × Nat) := match H.get i with
  | some (.row c e z true) => some (c, e, z)
  | _ => none
theorem aStore_at {P : Program} {t n i o : Nat} {H : AHeap} {v : Value} (h : sizeT P t = some n) : aStore P t (.pointer (some ⟨i, o, none⟩)) v H = (ownRow H i).bind fun r => if v.cells.size = n then aStoreCells i r.2.1 r.2.2 H r.1 o v.cells.toList else none := by
  obtain ⟨inf, h1, h2⟩ := Option.map_eq_some_iff.1 h
  simp only [aStore, ownRow, h1]
  cases H.get i with
  | none => rfl
  | some ob =>
    cases ob with
    | row c e z w =>
      cases w with
      | false => rfl
      | true =>
        simp only [Option.bind_some, h2]
        by_cases hs : v.cells.size = n
        · rw [if_pos hs, hs, Nat.beq_refl]; rfl
        · rw [if_neg hs, show Nat.beq v.cells.size n = false from by cases h : Nat.beq v.cells.size n; · rfl
                                                                     · exact absurd (Nat.eq_of_beq_eq_true h) hs]; rfl
    | _ => rfl
theorem store_nil (i : Nat) (e z : Nat) (H : AHeap) (cells : List Value) (o : Nat) : aStoreCells i e z H cells o [] = some H := rfl
theorem store_cons (i : Nat) (e z : Nat) (H : AHeap) (cells : List Value) (o : Nat) (v : Value) (vs : List Value) :
    aStoreCells i e z H cells o (v :: vs) = if o < cells.length ∧ oneV v = true then aStoreCells i e z (H.upd i (some (.row (cells.set o v) e z true))) (cells.set o v) (o + 1) vs else none := by
  simp only [aStoreCells]
  by_cases h : o < cells.length
  · cases oneV v with
    | true => rw [if_pos ⟨h, rfl⟩, show Nat.blt o cells.length = true from Nat.blt_eq ▸ h]; rfl
    | false => rw [if_neg (by simp)]; cases Nat.blt o cells.length <;> rfl
  · rw [if_neg (by simp [h]), show Nat.blt o cells.length = false from by cases e : Nat.blt o cells.length; · rfl
                                                                          · rw [Nat.blt_eq] at e; exact absurd e h]; rfl
theorem oneV_int (k : IntKind) (n : Int) : oneV (.int k n) = true := rfl
theorem oneV_bool (b : Bool) : oneV (.bool b) = true := rfl
theorem oneV_string (b : ByteArray) : oneV (.string b) = true := rfl
theorem oneV_ptr (a : Option Addr) : oneV (.pointer a) = true := rfl
theorem oneV_map (a : Option Nat) : oneV (.map a) = true := rfl
theorem oneV_slice (a : Option Addr) (n c : Nat) : oneV (.slice a n c) = true := rfl
theorem cells_int (k : IntKind) (n : Int) : (Value.int k n).cells = #[.int k n] := rfl
theorem cells_bool (b : Bool) : (Value.bool b).cells = #[.bool b] := rfl
theorem cells_string (b : ByteArray) : (Value.string b).cells = #[.string b] := rfl
theorem cells_ptr (a : Option Addr) : (Value.pointer a).cells = #[.pointer a] := rfl
theorem cells_map (a : Option Nat) : (Value.map a).cells = #[.map a] := rfl
theorem cells_slice (a : Option Addr) (n c : Nat) : (Value.slice a n c).cells = #[.slice a n c] := rfl
theorem cells_agg (a : Array Value) : (Value.agg a).cells = a := rfl
theorem low_int (n : Nat) (k : IntKind) (a : Int) : lowV n (.int k a) = true := rfl
theorem low_bool (n : Nat) (b : Bool) : lowV n (.bool b) = true := rfl
theorem low_string (n : Nat) (b : ByteArray) : lowV n (.string b) = true := rfl
theorem low_unit (n : Nat) : lowV n (.tuple #[]) = true := rfl
theorem low_vv (n : Nat) (j k : IntKind) (a b : Int) : lowV n (.agg #[.int j a, .int k b]) = true := rfl

/-! ### calls -/
/-- what a call tells when its code is through -/
def fnEnd (P : Program) (rs : List ResultVar) (H : AHeap) (Q : Value × AHeap → Prop) : St → Prop
  | (.on, env, H') => Got (aResults P env H' rs) fun vs => Q (leave H (oneOf vs) H')
  | (.back, env, H') => Got (aResults P env H' rs) fun vs => Q (leave H (oneOf vs) H')
  | (.out _, _, _) => False
section
variable {P : Program} {rs : List ResultVar} {H : AHeap} {Q : Value × AHeap → Prop}
theorem fnEnd_on (e : Tr Value) (h : AHeap) : fnEnd P rs H Q (.on, e, h) = Got (aResults P e h rs) fun vs => Q (leave H (oneOf vs) h) := rfl
theorem fnEnd_back (e : Tr Value) (h : AHeap) : fnEnd P rs H Q (.back, e, h) = Got (aResults P e h rs) fun vs => Q (leave H (oneOf vs) h) := rfl
theorem fnEnd_out (i : Nat) (e : Tr Value) (h : AHeap) : fnEnd P rs H Q (.out i, e, h) = False := rfl
theorem res_nil (env : Tr Value) (h : AHeap) (R : List Value → Prop) : Got (aResults P env h []) R = R [] := by simp only [aResults, got_some]
theorem res_tmp (env : Tr Value) (h : AHeap) (t : Nat) (R : List Value → Prop) : Got (aResults P env h (.tmp t :: rs)) R = Got (aResults P env h rs) fun vs => R ((env.get t).getD undef :: vs) := by
  simp only [aResults]
  cases aResults P env h rs <;> simp only [got_some, got_none]
theorem res_cell (env : Tr Value) (h : AHeap) (a t : Nat) (R : List Value → Prop) : Got (aResults P env h (.cell a t :: rs)) R = Got (aLoad P t ((env.get a).getD undef) h) fun v => Got (aResults P env h rs) fun vs => R (v :: vs) := by
  simp only [aResults]
  cases aLoad P t ((env.get a).getD undef) h with
  | none => simp only [got_none]
  | some v => cases aResults P env h rs <;> simp only [got_some, got_none]
@[congr] theorem oCall_congr {gs : List Nat} {O : Helps} {n f : Nat} {args args' : List Value} {H H' : AHeap} (h : args = args') (k : H = H') : oCall P gs O n f args H = oCall P gs O n f args' H' := by rw [h, k]
theorem y_fn {gs : List Nat} {O : Helps} {f : FuncId} {fn : Func} {c : Code} (ho : O f = none) (hf : P.funcs[f]? = some fn) (hc : fn.body = some c) (hk : chkFn P gs f = true) (hr : fn.results.toList = rs) {n : Nat} {args : List Value} (hl : Nat.ble args.length fn.ntmps = true) {o : Tr AObj} {nx : Nat} {lg : List Nat} :
    Got (oCall P gs O (n + 1) f args ⟨o, nx, lg⟩) Q = Got (rCode P (oCall P gs O n) n c (argsEnv args 0 .nil) ⟨o, nx, []⟩) (fnEnd P rs ⟨o, nx, lg⟩ Q) := by
  subst hr
  rw [oCall_eq ho hf hc hk n args hl]
  cases rCode P (oCall P gs O n) n c (argsEnv args 0 .nil) ⟨o, nx, []⟩ with
  | none => simp only [fnOut, got_none]
  | some s =>
    obtain ⟨w, e, h⟩ := s
    cases w <;> simp only [fnOut, got_some, got_none, got_map, fnEnd]
end
theorem oneOf_one (v : Value) : oneOf [v] = v := rfl
theorem oneOf_two (a b : Value) : oneOf [a, b] = .tuple #[a, b] := rfl
theorem oneOf_three (a b c : Value) : oneOf [a, b, c] = .tuple #[a, b, c] := rfl
theorem oneOf_nil : oneOf [] = .tuple #[] := rfl
/-- a call that turns nothing of what was there, and tells no new block, leaves the memory as it was -/
theorem leave_quiet {o o' : Tr AObj} {nx nx' : Nat} {lg l : List Nat} {v : Value} (h1 : l.all (fun i => Nat.ble nx i) = true) (h2 : lowV nx v = true) : leave ⟨o, nx, lg⟩ v ⟨o', nx', l⟩ = (v, ⟨o, nx, lg⟩) := by
  simp only [leave, h1, h2, Bool.and_self, cond]

/-! ### against nil -/
section
variable {P : Program} {t e kt : TypeId} {cx : Bool}
theorem b_neq_ptr (hu : P.underlying t = some (.pointer e)) {a : Addr} : binV P .neq t cx true (.pointer (some a)) (.pointer none) = some (.bool true) := by cases cx <;> simp [binV, aPure, opnd, val2, Op.operands, flat, flat2, flat1, notSelect, aNilEq, aNilEq0, hu, kindFits, isNilConst, isNilV]
theorem b_eql_ptr (hu : P.underlying t = some (.pointer e)) {a : Addr} : binV P .eql t cx true (.pointer (some a)) (.pointer none) = some (.bool false) := by cases cx <;> simp [binV, aPure, opnd, val2, Op.operands, flat, flat2, flat1, notSelect, aNilEq, aNilEq0, hu, kindFits, isNilConst, isNilV]
theorem b_neq_map (hu : P.underlying t = some (.map kt e)) {a : Nat} : binV P .neq t cx true (.map (some a)) (.map none) = some (.bool true) := by cases cx <;> simp [binV, aPure, opnd, val2, Op.operands, flat, flat2, flat1, notSelect, aNilEq, aNilEq0, hu, kindFits, isNilConst, isNilV]
theorem b_eql_map (hu : P.underlying t = some (.map kt e)) {a : Nat} : binV P .eql t cx true (.map (some a)) (.map none) = some (.bool false) := by cases cx <;> simp [binV, aPure, opnd, val2, Op.operands, flat, flat2, flat1, notSelect, aNilEq, aNilEq0, hu, kindFits, isNilConst, isNilV]
end
theorem want_eq (d : Option Tmp) (op : Op) (ty : TypeId) (ps : String) (af : Array Edge) (j : Nat) (w : Bool) (all : List Oper) (env : Tr Value) : wantedA ⟨d, op, ty, ps, af, some (j, w)⟩ all env = match dstAt all j with
    | some t => match env.get t with
      | some (.bool b) => cond w b (!b)
      | _ => false
    | none => false := by
  simp only [wantedA]
  unfold dstAt
  cases (all[j]?).bind (·.dst) with
  | none => rfl
  | some t =>
    simp only
    cases env.get t with
    | none => rfl
    | some v => cases v <;> (try rfl) <;> (rename_i b; cases b <;> cases w <;> rfl)
/-! ### an order that is drawn -/
section
variable {bf : List Nat} {k : Nat} {cs : List (Nat × Class)}
theorem clash_pure_r (c : Class) : clash c .pure = false := by cases c <;> rfl
theorem clash_pure_l (c : Class) : clash .pure c = false := by cases c <;> rfl
theorem clash_ll (i j : Nat) : clash (.load i) (.load j) = false := rfl
theorem clash_lf (i j : Nat) : clash (.load i) (.fresh j) = false := rfl
theorem clash_fl (i j : Nat) : clash (.fresh i) (.load j) = false := rfl
theorem clash_ff (i j : Nat) : clash (.fresh i) (.fresh j) = false := rfl
theorem clash_lo (i : Nat) (q : Bool) (w : List Nat) : clash (.load i) (.other q w) = w.any (Nat.beq i) := rfl
theorem clash_ol (i : Nat) (q : Bool) (w : List Nat) : clash (.other q w) (.load i) = w.any (Nat.beq i) := rfl
theorem clash_fo (i : Nat) (q : Bool) (w : List Nat) : clash (.fresh i) (.other q w) = w.any (Nat.beq i) := rfl
theorem clash_of (i : Nat) (q : Bool) (w : List Nat) : clash (.other q w) (.fresh i) = w.any (Nat.beq i) := rfl
theorem clash_oo (q r : Bool) (w u : List Nat) : clash (.other q w) (.other r u) = !(q && r) := rfl
theorem calm_cons (j : Nat) (c' c : Class) : calm bf k ((j, c') :: cs) c = ((!clash c' c || ((bf[k]?).getD 0).testBit j) && calm bf k cs c) := by
  simp only [calm, List.any_cons]
  cases ((bf[k]?).getD 0).testBit j <;> cases clash c' c <;> simp
theorem calm_pure_r : calm bf k cs .pure = true := calm_pure _ fun p _ => clash_pure_r p.2
end
theorem beq_self (n : Nat) : Nat.beq n n = true := Nat.beq_refl n

/-! ### numbers of blocks -/
theorem ne_new {i nx : Nat} (h : i < nx) (k : Nat) : (i = nx + k) = False := eq_false (by omega)
theorem ne_new0 {i nx : Nat} (h : i < nx) : (i = nx) = False := eq_false (by omega)
theorem new_ne {i nx : Nat} (h : i < nx) (k : Nat) : (nx + k = i) = False := eq_false (by omega)
theorem new_ne0 {i nx : Nat} (h : i < nx) : (nx = i) = False := eq_false (by omega)
theorem self_ne (nx k : Nat) : (nx = nx + (k + 1)) = False := eq_false (by omega)
theorem self_ne' (nx k : Nat) : (nx + (k + 1) = nx) = False := eq_false (by omega)
theorem ble_self (nx : Nat) : Nat.ble nx nx = true := by rw [Nat.ble_eq]; exact Nat.le_refl _
theorem ble_add (nx k : Nat) : Nat.ble nx (nx + k) = true := by rw [Nat.ble_eq]; exact Nat.le_add_right _ _
theorem all_note (p : Nat → Bool) (i : Nat) (l : List Nat) : (noteId i l).all p = (p i && l.all p) := by
  unfold noteId
  cases h : l.any (Nat.beq i) with
  | false => rfl
  | true =>
    simp only [cond]
    rw [List.any_eq_true] at h
    obtain ⟨j, hj, e⟩ := h
    have e := Nat.eq_of_beq_eq_true e
    subst e
    cases hl : l.all p with
    | false => simp
    | true => rw [List.all_eq_true.1 hl i hj]; rfl
end Go.Proofs.Ytmflapajjghpmaa
