/- HeapKeeps: a round's first lines. -/
import Derived.Test.YthnlkahgmbadoaaHkLaw1
import Derived.Test.YthnlkahgmbadoaaHmObjs
import Derived.Test.YthnlkahgmbadoaaAmGo
import Derived.Test.YthnlkahgmbadoaaPick
import Derived.Test.YthnlkahgmbadoaaVList
import Derived.Test.YthnlkahgmbadoaaRowStruct
namespace Go.Proofs.Ythnlkahgmbadoaa
open Go.RowKit
set_option linter.unusedSimpArgs false
set_option linter.unusedVariables false
set_option maxRecDepth 100000

def hkW (f : Func) : Code := sqR (sqR (sqR (sqR (sqR (sqR (bodyOf f))))))
def hkIn (f : Func) : Code := lpIn (blkIn (sqR (sqL (hkW f))))
def hkB1 (f : Func) : Code := blkIn (sqL (sqR (hkIn f)))
def hkB2 (f : Func) : Code := sqL (sqR (sqR (sqR (sqR (sqR (hkB1 f))))))
/-- an op's cells -/
def opCells (k a b c n : Int) (s : ByteArray) : List Value := [.int .i64 k, .int .i64 a, .int .i64 b, .int .i64 c, .int .i64 n, .string s]
theorem op_form {z : List Value} (hl : z.length = 6) (h : ∀ (j : Nat) (k : SK) (x : Value), [SK.i .i64, SK.i .i64, SK.i .i64, SK.i .i64, SK.i .i64, SK.s][j]? = some k → z[j]? = some x → k.ok x) :
    ∃ k a b c n s, z = opCells k a b c n s ∧ (Lit.int .i64 k).wf = true ∧ (Lit.int .i64 a).wf = true := by
  match z, hl with
  | [z0, z1, z2, z3, z4, z5], _ =>
    obtain ⟨k, rfl, hk⟩ := h 0 _ z0 rfl rfl
    obtain ⟨a, rfl, ha⟩ := h 1 _ z1 rfl rfl
    obtain ⟨b, rfl, _⟩ := h 2 _ z2 rfl rfl
    obtain ⟨c, rfl, _⟩ := h 3 _ z3 rfl rfl
    obtain ⟨n, rfl, _⟩ := h 4 _ z4 rfl rfl
    obtain ⟨s, rfl⟩ := h 5 _ z5 rfl rfl
    exact ⟨k, a, b, c, n, s, rfl, hk, ha⟩
theorem rows_len {m : Nat} : ∀ (zs : List (List Value)), (∀ z ∈ zs, z.length = m) → (zs.flatMap id).length = zs.length * m
  | [], _ => by simp
  | z :: zs, h => by
    rw [List.flatMap_cons, List.length_append, rows_len zs fun x hx => h x (by simp [hx])]
    have := h z (by simp)
    simp only [id, List.length_cons, this, Nat.succ_mul]; omega
theorem rows_cut {m : Nat} {zs : List (List Value)} (hz : ∀ z ∈ zs, z.length = m) {i : Nat} {z : List Value} (h : zs[i]? = some z) : cut (zs.flatMap id) (i * m) m = some z := by
  obtain ⟨hi, e⟩ := List.getElem?_eq_some_iff.1 h
  have h1 : zs = zs.take i ++ (z :: zs.drop (i + 1)) := by rw [← e, ← List.drop_eq_getElem_cons hi, List.take_append_drop]
  refine cut_in (hz z (List.mem_of_getElem? h)) ((zs.take i).flatMap id) ((zs.drop (i + 1)).flatMap id) ?_ ?_
  · rw [rows_len _ fun x hx => hz x (List.mem_of_mem_take hx), List.length_take, Nat.min_eq_left (by omega)]
  · conv => lhs; rw [h1]
    rw [List.flatMap_append, List.flatMap_cons]; rfl
/-- where the law's things lie -/
structure HkB where
  mw : Nat
  b1 : Nat
  bi : Nat
/-- the law's memory -/
structure HkIn (zs : List (List Value)) (L : HkB) (cnt : Nat) (o : Tr AObj) (nx : Nat) (w : Nat → Nat) (B : HB) (hs : HS) (es : List MapEntry) (c : Nat) (sl : Value) (ls : List VV) : Prop where
  heap : HeapIn o nx w B hs
  hB : B.i = L.bi
  K : KP hs (2 * cnt)
  w0 : w 0 = 0
  wm : w L.mw = 0
  w1 : w L.b1 = 0
  ltm : L.mw < nx
  lt1 : L.b1 < nx
  m0 : 0 < L.mw
  n0 : 0 < L.b1
  ne : L.b1 ≠ L.mw
  row : o.get 0 = some (.row (zs.flatMap id) 0 1 false)
  one : o.get L.b1 = some (.row [.int .u8 3, .int .i64 1] 30 0 true)
  want : o.get L.mw = some (.map es c)
  kv : MapIs vv es (wantKV hs.objs)
  lst : (ls = [] ∧ sl = .slice none 0 0) ∨ ∃ j, sl = .slice (some ⟨j, 0, none⟩) ls.length 0 ∧ j < nx ∧ w j = 0 ∧ j ≠ 0 ∧ j ≠ L.mw ∧ j ≠ L.b1 ∧ o.get j = some (.row (vvCells ls) 30 2 true) ∧ 0 < ls.length
  lsn : ls.length ≤ cnt
theorem HkIn.more {zs : List (List Value)} {L : HkB} {cnt : Nat} {o : Tr AObj} {nx : Nat} {w : Nat → Nat} {B : HB} {hs : HS} {es : List MapEntry} {c : Nat} {sl : Value} {ls : List VV} (h : HkIn zs L cnt o nx w B hs es c sl ls) {o' : Tr AObj} {nx' : Nat} (hn : nx ≤ nx') (hk : ∀ x, x < nx → o'.get x = o.get x) : HkIn zs L cnt o' nx' w B hs es c sl ls :=
  ⟨h.heap.more hn hk, h.hB, h.K, h.w0, h.wm, h.w1, Nat.lt_of_lt_of_le h.ltm hn, Nat.lt_of_lt_of_le h.lt1 hn, h.m0, h.n0, h.ne, (hk 0 (by have := h.ltm; omega)).trans h.row, (hk _ h.lt1).trans h.one, (hk _ h.ltm).trans h.want, h.kv, h.lst.imp id fun ⟨j, a, b, c, d, e, f, g, l0⟩ => ⟨j, a, Nat.lt_of_lt_of_le b hn, c, d, e, f, (hk j b).trans g, l0⟩, h.lsn⟩
structure HkE (len : Nat) (L : HkB) (oa : Option Addr) (i : Nat) (sl : Value) (e : Tr Value) : Prop where
  g0 : e.get 0 = some (.slice oa len 0)
  g3 : e.get 3 = some (.pointer (some ⟨L.bi, 0, none⟩))
  g5 : e.get 5 = some (.map (some L.mw))
  g6 : e.get 6 = some sl
  g7 : e.get 7 = some (.pointer (some ⟨L.b1, 0, none⟩))
  g8 : e.get 8 = some (.int .i64 (.ofNat i))
def HkSt (zs : List (List Value)) (L : HkB) (oa : Option Addr) (cnt i : Nat) (e : Tr Value) (H : AHeap) : Prop :=
  ∃ o nx lg w B hs es c sl ls, H = (⟨o, nx, lg⟩ : AHeap) ∧ HkIn zs L cnt o nx w B hs es c sl ls ∧ HkE zs.length L oa i sl e
/-- .. with the op, the number and the picked value in their boxes -/
structure HkMid (op : List Value) (i : Nat) (at' : VV) (p : Nat) (o : Tr AObj) (nx : Nat) (w : Nat → Nat) (hs : HS) (e : Tr Value) : Prop where
  g9 : ∃ q, e.get 9 = some (.pointer (some ⟨q, 0, none⟩)) ∧ p ≤ q ∧ q < nx ∧ o.get q = some (.row op 44 0 true)
  g10 : ∃ q, e.get 10 = some (.pointer (some ⟨q, 0, none⟩)) ∧ p ≤ q ∧ q < nx ∧ o.get q = some (.row [.int .u8 3, .int .i64 (.ofNat (i + 1))] 30 0 true)
  g11 : ∃ q, e.get 11 = some (.pointer (some ⟨q, 0, none⟩)) ∧ p ≤ q ∧ q < nx ∧ o.get q = some (.row [.int .u8 at'.1, .int .i64 at'.2] 30 0 true)
  g13 : e.get 13 = some (.bool (decide (at' ∈ hs.objs.map keyOf)))
  new : ∀ q, p ≤ q → w q = 0
/-- what the map tells of a value -/
theorem want_look {es : List MapEntry} {l : List (Int × Ob)} (h : MapIs vv es (wantKV l)) (v : VV) (m c : Nat) : ∃ u : Int, ∀ H : AHeap, H.get m = some (.map es c) → aLookup Try.prog 42 (.map (some m)) (.agg #[.int .u8 v.1, .int .i64 v.2]) true H = some (.tuple #[.int .i64 u, .bool (decide (v ∈ l.map keyOf))]) := by
  have hl : ∀ H : AHeap, H.get m = some (.map es c) → aLookup Try.prog 42 (.map (some m)) (vv v) true H = _ := fun H hg => aLookup_by key_vv Try.underlying42 (show zeroOf Try.prog 2 = some (.int .i64 0) by kernel_rfl) hg h v true
  rcases findK_map keyOf (fun q => .int .i64 (numOf q.2)) v l 0 with ⟨h1, h2⟩ | ⟨r, q, h1, h2, _, h4⟩
  · rw [h2] at hl
    refine ⟨0, fun H hg => (hl H hg).trans ?_⟩
    rw [decide_eq_false h1]; rfl
  · rw [h4] at hl
    refine ⟨numOf q.2, fun H hg => (hl H hg).trans ?_⟩
    rw [decide_eq_true (List.mem_map.2 ⟨q, List.mem_of_getElem? h1, h2⟩)]; rfl
end Go.Proofs.Ythnlkahgmbadoaa
