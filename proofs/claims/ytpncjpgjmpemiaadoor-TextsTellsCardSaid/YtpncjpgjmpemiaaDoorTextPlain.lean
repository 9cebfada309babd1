/- Texts: what the chapter's functions tell, as plain functions of bytes. -/
import Derived.Test.YtpncjpgjmpemiaaDoorByteDefs
import Derived.Test.YtpncjpgjmpemiaaDoorIntsHelp
import Derived.Test.YtpncjpgjmpemiaaDoorRunesPlain
import Derived.Lib.IndexMore
namespace Go.Proofs.YtpncjpgjmpemiaaDoor
open Go.RowKit
set_option linter.unusedSimpArgs false
set_option linter.unusedVariables false

def dig3 (b : UInt8) : List UInt8 := ([48, 48] ++ fmtL (Int.ofNat b.toNat)).drop (([48, 48] ++ fmtL (Int.ofNat b.toNat)).length - 3)
def escB (b : UInt8) : List UInt8 :=
  if b = 10 then [92, 110] else if b = 34 ∨ b = 92 then [92, b] else if b.toNat < 32 ∨ 126 < b.toNat then 92 :: dig3 b else [b]
def quoteL (l : List UInt8) : List UInt8 := 34 :: (l.flatMap escB ++ [34])
/-- digits of a base at the beginning of a text -/
def digP (base : Int) : Nat → Int → List UInt8 → Int × Nat
  | 0, n, _ => (n, 0)
  | _ + 1, n, [] => (n, 0)
  | m + 1, n, c :: r => if n < 2147483648 ∧ (hexB c).2 = true ∧ (hexB c).1 < base then ((digP base m (n * base + (hexB c).1) r).1, (digP base m (n * base + (hexB c).1) r).2 + 1) else (n, 0)
def encP (n : Int) : List UInt8 × Int := if n < 0 ∨ 2147483648 ≤ n then ([], 10) else (encU n.toNat, 0)
def plainT : List (UInt8 × UInt8) := [(97, 7), (98, 8), (102, 12), (110, 10), (114, 13), (116, 9), (118, 11), (92, 92), (39, 39), (34, 34)]
def letterP (c : UInt8) : List UInt8 × Nat := match plainT.find? (fun p => p.1 == c) with
  | some p => ([p.2], 1)
  | none => ([], 0)
def byteI (n : Int) : UInt8 := UInt8.ofNat n.toNat
/-- what stands behind a backslash -/
def escP : List UInt8 → List UInt8 × Nat
  | [] => ([], 0)
  | c :: r =>
    if c = 10 ∨ c = 13 then (match r with
      | d :: _ => if (d = 10 ∨ d = 13) ∧ d ≠ c then ([10], 2) else ([10], 1)
      | [] => ([10], 1))
    else if c = 120 then (if (digP 16 2 0 r).2 = 2 then ([byteI (digP 16 2 0 r).1], 3) else ([], 0))
    else if c = 122 then ([], 1 + (r.takeWhile spaceB).length)
    else if c = 117 then (match r with
      | 123 :: t => if 0 < (digP 16 (t.length + 2) 0 t).2 ∧ (encP (digP 16 (t.length + 2) 0 t).1).2 = 0 ∧ (t.drop (digP 16 (t.length + 2) 0 t).2).head? = some 125 then ((encP (digP 16 (t.length + 2) 0 t).1).1, (digP 16 (t.length + 2) 0 t).2 + 3) else ([], 0)
      | _ => ([], 0))
    else if digitB c then (if (digP 10 3 0 (c :: r)).1 ≤ 255 then ([byteI (digP 10 3 0 (c :: r)).1], (digP 10 3 0 (c :: r)).2) else ([], 0))
    else letterP c
def unqF (q : UInt8) : Nat → List UInt8 → List UInt8 → Option (List UInt8)
  | 0, _, _ => none
  | _ + 1, [], _ => none
  | f + 1, c :: r, out => if c = q then (if r = [] then some out else none)
    else if c = 10 ∨ c = 13 then none
    else if c = 92 then (if (escP r).2 = 0 then none else unqF q f (r.drop (escP r).2) (out ++ (escP r).1))
    else unqF q f r (out ++ [c])
def unqP : List UInt8 → Option (List UInt8)
  | q :: r => if r = [] ∨ (q ≠ 34 ∧ q ≠ 39) then none else unqF q (r.length + 1) r []
  | [] => none
def unqV : Option (List UInt8) → Value
  | some t => .tuple #[str t, .int .i64 0]
  | none => .tuple #[str [], .int .i64 30]
def levelL (s : List UInt8) : Nat → Nat → Nat
  | 0, k => k
  | m + 1, k => cond (Lib.contains (s ++ [93]) (93 :: (List.replicate k 61 ++ [93]))) (levelL s m (k + 1)) k
def longOf (s : List UInt8) (k : Nat) : List UInt8 := 91 :: (List.replicate k 61 ++ (91 :: 10 :: (s ++ (93 :: (List.replicate k 61 ++ [93])))))
def longL (s : List UInt8) : List UInt8 × Bool := cond (Lib.contains s [13]) ([], false) (longOf s (levelL s (s.length + 2) 0), true)
theorem every_byte {f : UInt8 → Bool} (h : ((List.range 256).all fun k => f (UInt8.ofNat k)) = true) (b : UInt8) : f b = true := by
  have := List.all_eq_true.1 h b.toNat (List.mem_range.2 b.toNat_lt)
  simpa using this
theorem esc_len (b : UInt8) : (escB b).length ≤ 4 := of_decide_eq_true (every_byte (f := fun b => decide ((escB b).length ≤ 4)) (by kernel_rfl) b)
theorem fmt_len (b : UInt8) : 1 ≤ (fmtL (Int.ofNat b.toNat)).length ∧ (fmtL (Int.ofNat b.toNat)).length ≤ 3 := of_decide_eq_true (every_byte (f := fun b => decide (1 ≤ (fmtL (Int.ofNat b.toNat)).length ∧ (fmtL (Int.ofNat b.toNat)).length ≤ 3)) (by kernel_rfl) b)
theorem flat_len (l : List UInt8) : (l.flatMap escB).length ≤ 4 * l.length := by
  induction l with
  | nil => simp
  | cons a l ih => have := esc_len a; rw [List.flatMap_cons, List.length_append, List.length_cons]; omega
theorem take_flat (f : UInt8 → List UInt8) (l : List UInt8) (k : Nat) (c : UInt8) (h : l[k]? = some c) : (l.take (k + 1)).flatMap f = (l.take k).flatMap f ++ f c := by
  rw [List.take_add_one, h, List.flatMap_append]; simp
end Go.Proofs.YtpncjpgjmpemiaaDoor
