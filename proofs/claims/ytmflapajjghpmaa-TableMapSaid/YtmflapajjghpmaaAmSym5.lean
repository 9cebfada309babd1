/- Running the abstract machine on values and memories that are not known whole: lengths, one-place operations, rows that are cut. No program in sight. -/
import Derived.Test.YtmflapajjghpmaaAmSym4
namespace Go.Proofs.Ytmflapajjghpmaa
open Go.RowKit

theorem cast_of (n : Nat) : ((n : Nat) : Int) = Int.ofNat n := rfl
theorem cut_one (a : Value) : cut [a] 0 1 = some [a] := rfl
theorem cut_three (a b c : Value) : cut [a, b, c] 0 3 = some [a, b, c] := rfl
theorem cut_four (a b c d : Value) : cut [a, b, c, d] 0 4 = some [a, b, c, d] := rfl
theorem cut_five (a b c d e : Value) : cut [a, b, c, d, e] 0 5 = some [a, b, c, d, e] := rfl
theorem cut_six (a b c d e f : Value) : cut [a, b, c, d, e, f] 0 6 = some [a, b, c, d, e, f] := rfl
theorem all_relogL (p : Nat → Bool) : ∀ (l lg : List Nat), (relogL lg l).all p = (lg.all p && l.all p)
  | [], lg => by simp [relogL]
  | i :: l, lg => by
    show (relogL (noteId i lg) l).all p = _
    rw [all_relogL p l (noteId i lg), all_note, List.all_cons]
    cases p i <;> cases lg.all p <;> rfl
theorem any_note (p : Nat → Bool) (i : Nat) (l : List Nat) : (noteId i l).any p = (p i || l.any p) := by
  have h := all_note (fun x => !p x) i l
  rw [List.all_eq_not_any_not, List.all_eq_not_any_not] at h
  simp only [Bool.not_not] at h
  cases h1 : (noteId i l).any p <;> cases h2 : p i <;> cases h3 : l.any p <;> simp_all
theorem isEmpty_note (i : Nat) (l : List Nat) : (noteId i l).isEmpty = false := by
  unfold noteId
  cases h : l.any (Nat.beq i) with
  | false => rfl
  | true => cases l with
    | nil => cases h
    | cons => rfl
theorem beq_new {i nx : Nat} (h : i < nx) (k : Nat) : Nat.beq i (nx + k) = false := by
  cases e : Nat.beq i (nx + k) with
  | false => rfl
  | true => have := Nat.eq_of_beq_eq_true e; omega
theorem beq_new0 {i nx : Nat} (h : i < nx) : Nat.beq i nx = false := beq_new h 0
theorem beq_add (nx a b : Nat) : Nat.beq (nx + a) (nx + b) = decide (a = b) := by
  cases e : Nat.beq (nx + a) (nx + b) with
  | false => exact (decide_eq_false fun h => by subst h; rw [Nat.beq_refl] at e; cases e).symm
  | true => have := Nat.eq_of_beq_eq_true e; exact (decide_eq_true (by omega)).symm
theorem lt_new {i nx : Nat} (h : i < nx) (k : Nat) : (i < nx + k) = True := eq_true (by omega)
/-- len, whatever of -/
def lenV (P : Program) (t ty : TypeId) (c : Bool) (x : Value) (H : AHeap) : Option Value :=
  match aLen P t x H with
  | some v => some v
  | none => aPure P (val2 x x) ⟨none, .call { callee := .builtin .len, args := #[opnd c 0 x], argTypes := #[t] }, ty, "", #[], none⟩
theorem pure_len (P : Program) (env : Tr Value) (t ty : TypeId) (x : Operand) (d : Option Tmp) (ps : String) (af : Array Edge) (g : Option (Nat × Bool)) :
    aPure P (aEval env) ⟨d, .call { callee := .builtin .len, args := #[x], argTypes := #[t] }, ty, ps, af, g⟩ = aPure P (val2 (aEval env x) (aEval env x)) ⟨none, .call { callee := .builtin .len, args := #[opnd (isC x) 0 (aEval env x)], argTypes := #[t] }, ty, "", #[], none⟩ := by
  cases x <;> simp [aPure, execOp, resolve, opnd, isC, val2, aEval, Op.operands, Call.operands, notSelect]
section
variable {P : Program} {call : CallFn} {env : Tr Value} {fid : Nat} {H : AHeap} {R : Value × AHeap → Prop} {d : Option Tmp} {ty t u e kt : TypeId} {ps : String} {af : Array Edge} {g : Option (Nat × Bool)} {x y : Operand} {c : Bool}
theorem st_lenV : Got (aStep P call (aEval env) ⟨d, .call { callee := .builtin .len, args := #[x], argTypes := #[t] }, ty, ps, af, g⟩ fid H) R = Got (lenV P t ty (isC x) (aEval env x) H) fun v => R (v, H) := by
  simp only [aStep, aSimple, lenV]
  rw [← pure_len P env t ty x d ps af g]
  cases aLen P t (aEval env x) H with
  | some v => simp only [got_some]
  | none => simp only [got_map]
theorem lenV_slice (hu : P.underlying t = some (.slice e)) (a : Option Addr) (n k : Nat) : lenV P t ty c (.slice a n k) H = some (.int .i64 (.ofNat n)) := by simp only [lenV, aLen, hu]; rfl
theorem lenV_map0 (hu : P.underlying t = some (.map kt e)) : lenV P t ty c (.map none) H = some (.int .i64 (.ofNat 0)) := by simp only [lenV, aLen, hu, entriesOf, Option.map_some]; rfl
theorem lenV_string (hu : P.underlying t = some .string) (s : ByteArray) : lenV P t ty c (.string s) H = some (.int .i64 (.ofNat s.size)) := by
  simp only [lenV, aLen, hu]
  cases c <;> simp [aPure, opnd, val2, notSelect, Op.operands, Call.operands, flat, flat2, flat1, execOp, resolve, invoke, builtin, Builtin.len_, qval_bind, qval_pure, q_map, qval_underlying hu, goInt]
/-- an operation of one value -/
def unV (P : Program) (op : UnOp) (t : TypeId) (c : Bool) (x : Value) : Option Value := aPure P (val2 x x) ⟨none, .unOp op t (opnd c 0 x), 0, "", #[], none⟩
theorem st_unOp {op : UnOp} : Got (aStep P call (aEval env) ⟨d, .unOp op t x, ty, ps, af, g⟩ fid H) R = Got (unV P op t (isC x) (aEval env x)) fun v => R (v, H) := by
  simp only [aStep, aSimple, got_map]
  congr 1
  cases x <;> rfl
theorem unV_not (b : Bool) : unV P .not t c (.bool b) = some (.bool (!b)) := by cases c <;> rfl
end

/-! ### cutting a row -/
def isSl : Value → Bool
  | .slice _ _ _ => true
  | _ => false
theorem isSl_slice (a : Option Addr) (n c : Nat) : isSl (.slice a n c) = true := rfl
section
variable {P : Program} {call : CallFn} {ρ : Operand → Value} {fid : Nat} {H : AHeap} {R : Value × AHeap → Prop} {d : Option Tmp} {ty t : TypeId} {ps : String} {af : Array Edge} {g : Option (Nat × Bool)} {x : Operand} {lo hi mx : Option Operand}
theorem st_slice (h : isSl (ρ x) = true) : Got (aStep P call ρ ⟨d, .slice t x lo hi mx, ty, ps, af, g⟩ fid H) R = Got (aSlice P t (ρ x) (lo.map ρ) (hi.map ρ) (mx.map ρ) H) fun v => R (v, H) := by
  simp only [aStep, aSimple]
  cases hx : ρ x with
  | slice a n c => simp only [got_map]
  | _ => rw [hx] at h; cases h
theorem slice_nil {e : Nat} (he : elemOf P t = some (none, e)) : aSlice P t (.slice none 0 0) (some (.int .i64 (.ofNat 0))) none none H = some (.slice none 0 0) := by
  unfold elemOf at he
  split at he
  · rename_i el hu
    obtain ⟨inf, h1, h2⟩ := Option.map_eq_some_iff.1 he
    simp only [aSlice, hu, h1, boundOf]
    rfl
  · obtain ⟨inf, h1, h2⟩ := Option.map_eq_some_iff.1 he
    cases h2
  · cases he
theorem slice_from {e : Nat} (he : elemOf P t = some (none, e)) {j o n i : Nat} {cells : List Value} {et : TypeId} {w : Bool} (hg : H.get j = some (.row cells et e w)) (hi : i ≤ n) {k : IntKind} :
    aSlice P t (.slice (some ⟨j, o, none⟩) n 0) (some (.int k (.ofNat i))) none none H = some (if i = n then .slice (some ⟨j, o, none⟩) 0 0 else .slice (some ⟨j, o + i * e, none⟩) (n - i) 0) := by
  unfold elemOf at he
  split at he
  · rename_i el hu
    obtain ⟨inf, h1, h2⟩ := Option.map_eq_some_iff.1 he
    cases h2
    have hb : Nat.ble i n = true := Nat.ble_eq ▸ hi
    have hk : capKnown inf.size j H = true := by simp [capKnown, hg]
    simp only [aSlice, hu, h1, boundOf, Option.getD_some, Option.getD_none, hb, ble_self, Option.isNone_none, Bool.true_or, Bool.and_self, cond, hk]
    by_cases e : i = n
    · subst e; simp only [Nat.beq_refl, if_true]
    · rw [if_neg e, show Nat.beq i n = false from by cases h : Nat.beq i n; · rfl
                                                     · exact absurd (Nat.eq_of_beq_eq_true h) e]
  · obtain ⟨inf, h1, h2⟩ := Option.map_eq_some_iff.1 he
    cases h2
  · cases he
theorem slice_nil0 {e : Nat} (he : elemOf P t = some (none, e)) : aSlice P t (.slice none 0 0) (some (.int .i64 0)) none none H = some (.slice none 0 0) := slice_nil he
theorem slice_from0 {e : Nat} (he : elemOf P t = some (none, e)) {j o n : Nat} {cells : List Value} {et : TypeId} {w : Bool} (hg : H.get j = some (.row cells et e w)) {k : IntKind} :
    aSlice P t (.slice (some ⟨j, o, none⟩) n 0) (some (.int k 0)) none none H = some (if 0 = n then .slice (some ⟨j, o, none⟩) 0 0 else .slice (some ⟨j, o + 0 * e, none⟩) (n - 0) 0) := slice_from he hg (Nat.zero_le _)
end
end Go.Proofs.Ytmflapajjghpmaa
