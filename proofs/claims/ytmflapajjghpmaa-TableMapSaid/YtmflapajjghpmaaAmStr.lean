/- Running the abstract machine on strings, and on numbers: bits, shifts, conversions. No program in sight. -/
import Derived.Test.YtmflapajjghpmaaAmSym6
import Derived.Lib.Strings
import Derived.Lib.SmallJoins
namespace Go.Proofs.Ytmflapajjghpmaa
open Go.RowKit

abbrev str (l : List UInt8) : Value := .string ⟨l.toArray⟩
theorem str_of (s : ByteArray) : Value.string s = str s.data.toList := by cases s; rfl
def isStr : Value → Bool
  | .string _ => true
  | _ => false
theorem isStr_str (s : ByteArray) : isStr (.string s) = true := rfl
/-! ### a frame that is known whole is kept as a tree -/
section
variable {α : Type} (l r : Tr α) (x v : Option α) (n k : Nat)
theorem put_nil : (Tr.nil : Tr α).put k v = Tr.set (k + 1) .nil k v := rfl
theorem put_node : (Tr.node l x r).put k v = Tr.set (k + 1) (.node l x r) k v := rfl
theorem set_nil_z : Tr.set (n + 1) (Tr.nil : Tr α) 0 v = .node .nil v .nil := rfl
theorem set_node_z : Tr.set (n + 1) (Tr.node l x r) 0 v = .node l v r := rfl
theorem set_nil_e (h : k % 2 = 0) : Tr.set (n + 1) (Tr.nil : Tr α) (k + 1) v = .node (Tr.set n .nil (k / 2) v) none .nil := by simp only [Tr.set, h]; rfl
theorem set_nil_o (h : k % 2 = 1) : Tr.set (n + 1) (Tr.nil : Tr α) (k + 1) v = .node .nil none (Tr.set n .nil (k / 2) v) := by simp only [Tr.set, h]; rfl
theorem set_node_e (h : k % 2 = 0) : Tr.set (n + 1) (Tr.node l x r) (k + 1) v = .node (Tr.set n l (k / 2) v) x r := by simp only [Tr.set, h]; rfl
theorem set_node_o (h : k % 2 = 1) : Tr.set (n + 1) (Tr.node l x r) (k + 1) v = .node l x (Tr.set n r (k / 2) v) := by simp only [Tr.set, h]; rfl
theorem get_node_z : (Tr.node l x r).get 0 = x := rfl
theorem get_node_e (h : k % 2 = 0) : (Tr.node l x r).get (k + 1) = l.get (k / 2) := by simp only [Tr.get, h]; rfl
theorem get_node_o (h : k % 2 = 1) : (Tr.node l x r).get (k + 1) = r.get (k / 2) := by simp only [Tr.get, h]; rfl
end
theorem ofNat_ge (n : Nat) : (0 ≤ Int.ofNat n) = True := eq_true (Int.natCast_nonneg n)
theorem toNat_of (n : Nat) : (Int.ofNat n).toNat = n := rfl
theorem ofNat_lt (a b : Nat) : (Int.ofNat a < Int.ofNat b) = (a < b) := by simp
theorem ofNat_le (a b : Nat) : (Int.ofNat a ≤ Int.ofNat b) = (a ≤ b) := by simp
theorem ofNat_eq (a b : Nat) : (Int.ofNat a = Int.ofNat b) = (a = b) := propext ⟨fun h => by injection h, fun h => by rw [h]⟩
theorem wrap_next (i : Nat) (h : i < 9223372036854775807) : IntKind.i64.wrap (Int.ofNat i + 1) = Int.ofNat (i + 1) := by
  have : Int.ofNat i + 1 = Int.ofNat (i + 1) := rfl
  rw [this]; exact IntWalk.i64_in _ (by simp; omega)
theorem byte_eq (a b : UInt8) : (a.toNat = b.toNat) = (a = b) := propext ⟨fun h => UInt8.toNat_inj.1 h, fun h => by rw [h]⟩
theorem size_str (l : List UInt8) : (⟨l.toArray⟩ : ByteArray).size = l.length := by simp [ByteArray.size]
theorem low_ii (n : Nat) (j k : IntKind) (a b : Int) : lowV n (.tuple #[.int j a, .int k b]) = true := rfl
theorem low_ib (n : Nat) (j : IntKind) (a : Int) (b : Bool) : lowV n (.tuple #[.int j a, .bool b]) = true := rfl
theorem low_bi (n : Nat) (j : IntKind) (a : Int) (b : Bool) : lowV n (.tuple #[.bool b, .int j a]) = true := rfl
theorem low_si (n : Nat) (j : IntKind) (a : Int) (b : ByteArray) : lowV n (.tuple #[.string b, .int j a]) = true := rfl
theorem low_sb (n : Nat) (a : ByteArray) (b : Bool) : lowV n (.tuple #[.string a, .bool b]) = true := rfl
theorem low_str (n : Nat) (l : List UInt8) : lowV n (str l) = true := rfl

section
variable {P : Program} {call : CallFn} {ρ : Operand → Value} {env : Tr Value} {fid : Nat} {H : AHeap} {R : Value × AHeap → Prop} {d : Option Tmp} {ty t : TypeId} {ps : String} {af : Array Edge} {g : Option (Nat × Bool)} {x ix : Operand} {lo hi : Option Operand}
/-! ### a letter -/
def ixS (P : Program) (t : TypeId) (a b : Value) : Option Value := aPure P (val2 a b) ⟨none, .index t (.tmp 0) (.tmp 1), 0, "", #[], none⟩
theorem st_indexS (h : isStr (ρ x) = true) : Got (aStep P call ρ ⟨d, .index t x ix, ty, ps, af, g⟩ fid H) R = Got (ixS P t (ρ x) (ρ ix)) fun v => R (v, H) := by
  simp only [aStep, aSimple]
  cases hx : ρ x with
  | string s =>
    have e : aPure P ρ ⟨d, .index t x ix, ty, ps, af, g⟩ = ixS P t (.string s) (ρ ix) := by
      simp [ixS, aPure, Op.operands, execOp, val2, notSelect, hx]
    simp only [e, got_map]
  | _ => rw [hx] at h; cases h
theorem ixS_at (hu : P.underlying t = some .string) (l : List UInt8) (k : IntKind) (i : Int) (h : 0 ≤ i) : ixS P t (str l) (.int k i) = (l[i.toNat]?).map fun b => .int .u8 b.toNat := by
  have e : (⟨l.toArray⟩ : ByteArray)[i.toNat]? = l[i.toNat]? := by
    by_cases hl : i.toNat < l.length
    · rw [List.getElem?_eq_getElem hl]
      exact (getElem?_pos (⟨l.toArray⟩ : ByteArray) i.toNat (show i.toNat < l.toArray.size by simpa using hl)).trans (by congr 1)
    · rw [List.getElem?_eq_none (by omega)]
      exact getElem?_neg (⟨l.toArray⟩ : ByteArray) i.toNat (show ¬ i.toNat < l.toArray.size by simpa using hl)
  simp only [ixS, aPure, Op.operands, notSelect, val2, execOp, Instr.index, asIntOf, qval_bind, qval_pure, qval_underlying hu, Option.bind_some, h, if_true, e]
  cases l[i.toNat]? with
  | none =>
    have hbp : ∀ (c : BoundsCode) (y : Int), qval P (boundsPanic (α := Value) k i y c) = none := fun c y => by
      unfold boundsPanic
      by_cases hc : (k != .u64 && 0 ≤ i && i ≤ 31) = true
      · rw [if_pos hc]; rfl
      · rw [if_neg hc]; rfl
    simp only [hbp]
    simp [flat, flat2, flat1]
  | some b => rfl
/-! ### a piece -/
def slS (P : Program) (t : TypeId) (a : Value) (lo hi : Option Value) : Option Value := aPure P (fun | .tmp 0 => a | .tmp 1 => lo.getD undef | _ => hi.getD undef) ⟨none, .slice t (.tmp 0) (lo.map fun _ => .tmp 1) (hi.map fun _ => .tmp 2) none, 0, "", #[], none⟩
theorem st_sliceS (h : isStr (ρ x) = true) : Got (aStep P call ρ ⟨d, .slice t x lo hi none, ty, ps, af, g⟩ fid H) R = Got (slS P t (ρ x) (lo.map ρ) (hi.map ρ)) fun v => R (v, H) := by
  simp only [aStep, aSimple]
  cases hx : ρ x with
  | string s =>
    have e : aPure P ρ ⟨d, .slice t x lo hi none, ty, ps, af, g⟩ = slS P t (.string s) (lo.map ρ) (hi.map ρ) := by
      cases lo <;> cases hi <;> simp [slS, aPure, Op.operands, execOp, notSelect, hx]
    simp only [e, got_map]
  | _ => rw [hx] at h; cases h
theorem slS_at (hu : P.underlying t = some .string) (l : List UInt8) {lo hi : Option Value} {i m : Nat} (hlo : (boundOf lo).map (fun x => x.getD 0) = some i) (hhi : (boundOf hi).map (fun x => x.getD l.length) = some m) (him : i ≤ m) (hm : m ≤ l.length) :
    slS P t (str l) lo hi = some (str ((l.drop i).take (m - i))) := by
  have hx : (⟨l.toArray⟩ : ByteArray).extract i m = ⟨((l.drop i).take (m - i)).toArray⟩ := Lib.extract_eq _ _ _
  have hz : (⟨l.toArray⟩ : ByteArray).size = l.length := by simp [ByteArray.size]
  have key : ∀ (lo hi : Option Value), (boundOf lo).map (fun x => x.getD 0) = some i → (boundOf hi).map (fun x => x.getD l.length) = some m → qval P (Instr.sliceBounds false l.length l.length lo hi none) = some (i, m, l.length) := fun lo hi h1 h2 => by
    have hb : ∀ (v : Value) (n y : Nat) (c : BoundsCode), (boundOf (some v)) = some (some n) → n ≤ y → qval P (Instr.sliceBound v y c) = some n := fun v n y c hv hn => by
      unfold boundOf at hv
      split at hv
      · rename_i heq; cases heq
      · rename_i k n' heq
        injection heq with heq
        subst heq
        injection hv with hv
        injection hv with hv
        subst hv
        simp only [Instr.sliceBound, asIntOf, qval_bind, qval_pure, Option.bind_some]
        rw [if_pos ⟨Int.natCast_nonneg n', Int.ofNat_le.2 hn⟩]
        rfl
      · cases hv
    cases lo with
    | none =>
      simp [boundOf] at h1; subst h1
      cases hi with
      | none => simp [boundOf] at h2; subst h2; simp only [Instr.sliceBounds, qval_bind, qval_pure, Option.bind_some]
      | some v =>
        obtain ⟨y, hy, hy2⟩ := Option.map_eq_some_iff.1 h2
        cases y with
        | none => exfalso; unfold boundOf at hy; split at hy <;> simp_all
        | some y => simp at hy2; subst hy2; simp only [Instr.sliceBounds, qval_bind, qval_pure, Option.bind_some, hb v y _ _ hy hm, Bool.false_eq_true, if_false]
    | some u =>
      obtain ⟨z, hz1, hz2⟩ := Option.map_eq_some_iff.1 h1
      cases z with
      | none => exfalso; unfold boundOf at hz1; split at hz1 <;> simp_all
      | some z =>
        simp at hz2; subst hz2
        cases hi with
        | none => simp [boundOf] at h2; subst h2; simp only [Instr.sliceBounds, qval_bind, qval_pure, Option.bind_some, hb u z _ _ hz1 him, Option.isSome_none, Bool.false_eq_true, if_false]
        | some v =>
          obtain ⟨y, hy, hy2⟩ := Option.map_eq_some_iff.1 h2
          cases y with
          | none => exfalso; unfold boundOf at hy; split at hy <;> simp_all
          | some y => simp at hy2; subst hy2; simp only [Instr.sliceBounds, qval_bind, qval_pure, Option.bind_some, hb v y _ _ hy hm, hb u z _ _ hz1 him, Option.isSome_none, Bool.false_eq_true, if_false]
  have hst : ∀ s : ByteArray, flat (.string s) = true := fun _ => rfl
  have hfl : ∀ (v : Value) (n : Option Nat), boundOf (some v) = some n → flat v = true := fun v n hv => by
    unfold boundOf at hv
    split at hv
    · rename_i heq; cases heq
    · rename_i k n' heq; cases heq; rfl
    · cases hv
  obtain ⟨bl, hbl, _⟩ := Option.map_eq_some_iff.1 hlo
  obtain ⟨bh, hbh, _⟩ := Option.map_eq_some_iff.1 hhi
  have fin : ∀ (lo' hi' : Option Value), lo' = lo → hi' = hi → qval P (Instr.sliceAt t (str l) lo' hi' none) = some (str ((l.drop i).take (m - i))) := fun lo' hi' e1 e2 => by
    subst e1 e2
    simp only [Instr.sliceAt, Instr.slice, qval_bind, qval_underlying hu, Option.bind_some, Option.isSome_none, Bool.false_eq_true, if_false, hz, key _ _ hlo hhi, hx, qval_pure]
    try rfl
  cases lo with
  | none => cases hi with
    | none => simp only [slS, aPure, Op.operands, notSelect, execOp, Option.map_none]; simp only [qval_bind, fin none none rfl rfl, Option.bind_some, qval_pure]; simp [hst]
    | some v => simp only [slS, aPure, Op.operands, notSelect, execOp, Option.map_none, Option.map_some, Option.getD_some]; simp only [qval_bind, fin none (some v) rfl rfl, Option.bind_some, qval_pure]; simp [hfl v bh hbh, hst]
  | some u => cases hi with
    | none => simp only [slS, aPure, Op.operands, notSelect, execOp, Option.map_none, Option.map_some, Option.getD_some]; simp only [qval_bind, fin (some u) none rfl rfl, Option.bind_some, qval_pure]; simp [hfl u bl hbl, hst]
    | some v => simp only [slS, aPure, Op.operands, notSelect, execOp, Option.map_none, Option.map_some, Option.getD_some]; simp only [qval_bind, fin (some u) (some v) rfl rfl, Option.bind_some, qval_pure]; simp [hfl u bl hbl, hfl v bh hbh, hst]
/-! ### conversions -/
def cvS (P : Program) (s d : TypeId) (a : Value) : Option Value := aPure P (val2 a a) ⟨none, .convert s d (.tmp 0), 0, "", #[], none⟩
def isIntV : Value → Bool
  | .int _ _ => true
  | _ => false
theorem isInt_int (k : IntKind) (n : Int) : isIntV (.int k n) = true := rfl
theorem st_convI {s' d' : TypeId} (h : isIntV (ρ x) = true) : Got (aStep P call ρ ⟨d, .convert s' d' x, ty, ps, af, g⟩ fid H) R = Got (cvS P s' d' (ρ x)) fun v => R (v, H) := by
  simp only [aStep, aSimple]
  cases hx : ρ x with
  | int k n =>
    have e : aPure P ρ ⟨d, .convert s' d' x, ty, ps, af, g⟩ = cvS P s' d' (.int k n) := by simp [cvS, aPure, Op.operands, execOp, val2, notSelect, hx]
    simp only [e, got_map]
  | _ => rw [hx] at h; cases h
theorem cvS_int {s' d' : TypeId} {k' : IntKind} {td : TypeDesc} (hs : P.underlying s' = some td) (hd : P.underlying d' = some (.int k')) (k : IntKind) (n : Int) : cvS P s' d' (.int k n) = some (.int k' (k'.wrap n)) := by
  simp only [cvS, aPure, Op.operands, notSelect, val2, execOp, convert, qval_bind, qval_underlying hs, qval_underlying hd, Option.bind_some]
  cases td <;> rfl
end
section
variable {P : Program} {t u : TypeId} {cx cy : Bool} {k k2 : IntKind} {a b : Int}
theorem binV_of {op : BinOp} {x y v : Value} (hg : ∀ p q, qval P (eqGuard op t p q x y) = some ()) (hb : qval P (binOp op t x y) = some v) (hx : flat x = true) (hy : flat y = true) (hv : flat v = true) : binV P op t cx cy x y = some v := by
  have key : ∀ (ρ : Operand → Value) (p q : Operand), ρ p = x → ρ q = y → aPure P ρ ⟨none, .binOp op t p q 0, 0, "", #[], none⟩ = some v := fun ρ p q h1 h2 => by
    simp only [aPure, notSelect, Op.operands, List.all_cons, List.all_nil, h1, h2, hx, hy, Bool.and_self, cond, execOp, qval_bind, hg, hb, Option.bind_some, qval_pure, hv]
  have := key (val2 x y) (opnd cx 0 x) (opnd cy 1 y) (by cases cx <;> rfl) (by cases cy <;> rfl)
  simp only [binV, this]
theorem listB (l : List UInt8) : (⟨l.toArray⟩ : ByteArray).toList = l := by rw [ByteArray.toList_eq]
theorem b_addS (l m : List UInt8) (h : l.length + m.length ≤ 9223372036854775807) : binV P .add t cx cy (str l) (str m) = some (str (l ++ m)) := by
  have hz : ∀ l : List UInt8, (⟨l.toArray⟩ : ByteArray).size = l.length := fun l => by simp [ByteArray.size]
  have e : (⟨l.toArray⟩ ++ ⟨m.toArray⟩ : ByteArray) = ⟨(l ++ m).toArray⟩ := by
    have := Joins.bytes_eta (⟨l.toArray⟩ ++ ⟨m.toArray⟩ : ByteArray)
    rw [← this, Joins.data_append]
  refine binV_of (fun _ _ => rfl) ?_ rfl rfl rfl
  show qval P (Op.stringOp .add _ _) = _
  unfold Op.stringOp
  simp only [hz]
  rw [if_neg (by rw [show IntKind.i64.max = 9223372036854775807 from by decide]; omega), e]
  rfl
theorem b_eqlS (l m : List UInt8) : binV P .eql t cx cy (str l) (str m) = some (.bool (decide (l = m))) := by
  have e : (l == m) = decide (l = m) := by cases h : l == m <;> simp_all
  refine binV_of (fun _ _ => rfl) ?_ rfl rfl rfl
  show qval P (Op.stringOp .eql _ _) = _
  unfold Op.stringOp
  simp only [listB, e]; rfl
theorem b_neqS (l m : List UInt8) : binV P .neq t cx cy (str l) (str m) = some (.bool (!decide (l = m))) := by
  have e : (l == m) = decide (l = m) := by cases h : l == m <;> simp_all
  refine binV_of (fun _ _ => rfl) ?_ rfl rfl rfl
  show qval P (Op.stringOp .neq _ _) = _
  unfold Op.stringOp
  simp only [listB, e]; rfl
theorem q_equalB (p q : Bool) (ht : P.underlying t = some .bool) (d : Nat) : qval P (Op.equalIn (d + 1) t (.bool p) (.bool q)) = some (p == q) := by
  simp only [Op.equalIn, qval_bind, qval_underlying ht, Option.bind_some]; rfl
theorem b_eqlB (p q : Bool) (ht : P.underlying t = some .bool) : binV P .eql t cx cy (.bool p) (.bool q) = some (.bool (p == q)) := by
  refine binV_of (fun _ _ => rfl) ?_ rfl rfl rfl
  show qval P (do pure (Value.bool (← Op.equalIn (9999 + 1) t (.bool p) (.bool q)))) = _
  simp only [qval_bind, q_equalB p q ht, Option.bind_some]; rfl
theorem b_neqB (p q : Bool) (ht : P.underlying t = some .bool) : binV P .neq t cx cy (.bool p) (.bool q) = some (.bool (!(p == q))) := by
  refine binV_of (fun _ _ => rfl) ?_ rfl rfl rfl
  show qval P (do pure (Value.bool (!(← Op.equalIn (9999 + 1) t (.bool p) (.bool q))))) = _
  simp only [qval_bind, q_equalB p q ht, Option.bind_some]; rfl
theorem b_and : binV P .and t cx cy (.int k a) (.int k b) = some (.int k (k.wrap (BitVec.ofInt k.bits a &&& BitVec.ofInt k.bits b).toNat)) := by cases cx <;> cases cy <;> simp [binV, aPure, opnd, val2, execOp, eqGuard, binOp, Op.intBits, qval, notSelect, flat, flat2, flat1, Op.operands] <;> rfl
theorem b_or : binV P .or t cx cy (.int k a) (.int k b) = some (.int k (k.wrap (BitVec.ofInt k.bits a ||| BitVec.ofInt k.bits b).toNat)) := by cases cx <;> cases cy <;> simp [binV, aPure, opnd, val2, execOp, eqGuard, binOp, Op.intBits, qval, notSelect, flat, flat2, flat1, Op.operands] <;> rfl
theorem b_xor : binV P .xor t cx cy (.int k a) (.int k b) = some (.int k (k.wrap (BitVec.ofInt k.bits a ^^^ BitVec.ofInt k.bits b).toNat)) := by cases cx <;> cases cy <;> simp [binV, aPure, opnd, val2, execOp, eqGuard, binOp, Op.intBits, qval, notSelect, flat, flat2, flat1, Op.operands] <;> rfl
theorem b_shl (hb : 0 ≤ b) : binV P .shl t cx cy (.int k a) (.int k2 b) = some (.int k (k.wrap (a * 2 ^ (min b.toNat k.bits)))) := by
  have h : ¬ b < 0 := by omega
  cases cx <;> cases cy <;> simp [binV, aPure, opnd, val2, execOp, eqGuard, binOp, Op.shift, h, qval, notSelect, flat, flat2, flat1, Op.operands] <;> rfl
theorem b_shr (hb : 0 ≤ b) : binV P .shr t cx cy (.int k a) (.int k2 b) = some (.int k (a.fdiv (2 ^ (min b.toNat k.bits)))) := by
  have h : ¬ b < 0 := by omega
  cases cx <;> cases cy <;> simp [binV, aPure, opnd, val2, execOp, eqGuard, binOp, Op.shift, h, qval, notSelect, flat, flat2, flat1, Op.operands] <;> rfl
theorem unV_neg : unV P .neg t cx (.int k a) = some (.int k (k.wrap (0 - a))) := by cases cx <;> rfl
theorem unV_xor : unV P .xor t cx (.int k a) = some (.int k (k.wrap (BitVec.ofInt k.bits (if k.signed then -1 else k.max) ^^^ BitVec.ofInt k.bits a).toNat)) := by cases cx <;> rfl
end
end Go.Proofs.Ytmflapajjghpmaa
