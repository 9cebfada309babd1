/- Sorting numbers: a plain sort that the kernel runs, and what a sorted row means for the machine. -/
import Derived.Test.YtgpmlbkhjpdebaaGreatAmB
import Derived.Sort.OwnSortedInts
set_option linter.unusedSimpArgs false
set_option linter.unusedVariables false
namespace Go.Proofs.YtgpmlbkhjpdebaaGreat
open Go.RowKit Go.Sort

def insI (x : Int) : List Int → List Int
  | [] => [x]
  | y :: l => cond (decide (x ≤ y)) (x :: y :: l) (y :: insI x l)
def sortI : List Int → List Int
  | [] => []
  | x :: l => insI x (sortI l)
theorem insI_perm (x : Int) : ∀ l : List Int, (insI x l).Perm (x :: l)
  | [] => .refl _
  | y :: l => by
    simp only [insI]
    cases decide (x ≤ y)
    · exact ((insI_perm x l).cons y).trans (.swap x y l)
    · exact .refl _
theorem sortI_perm : ∀ l : List Int, (sortI l).Perm l
  | [] => .refl _
  | x :: l => (insI_perm x (sortI l)).trans ((sortI_perm l).cons x)
theorem insI_sorted (x : Int) : ∀ l : List Int, l.Pairwise (· ≤ ·) → (insI x l).Pairwise (· ≤ ·)
  | [], _ => by simp [insI]
  | y :: l, h => by
    simp only [insI]
    have h1 := List.pairwise_cons.1 h
    cases hd : decide (x ≤ y)
    · simp only [cond]
      have hd := of_decide_eq_false hd
      refine List.pairwise_cons.2 ⟨fun z hz => ?_, insI_sorted x l h1.2⟩
      rcases List.mem_cons.1 ((insI_perm x l).subset hz) with rfl | hz
      · omega
      · exact h1.1 z hz
    · simp only [cond]
      have hd := of_decide_eq_true hd
      refine List.pairwise_cons.2 ⟨fun z hz => ?_, h⟩
      rcases List.mem_cons.1 hz with rfl | hz
      · exact hd
      · have := h1.1 z hz; omega
theorem sortI_sorted : ∀ l : List Int, (sortI l).Pairwise (· ≤ ·)
  | [] => .nil
  | x :: l => insI_sorted x _ (sortI_sorted l)
theorem sorted_one {l l' : List Int} (h : l.Perm l') (a : l.Pairwise (· ≤ ·)) (b : l'.Pairwise (· ≤ ·)) : l = l' :=
  List.Perm.eq_of_pairwise (le := fun x y : Int => x ≤ y) (fun x y _ _ h1 h2 => Int.le_antisymm h1 h2) a b h
theorem sortI_of_perm {l l' : List Int} (h : l.Perm l') : sortI l = sortI l' :=
  sorted_one ((sortI_perm l).trans (h.trans (sortI_perm l').symm)) (sortI_sorted l) (sortI_sorted l')
theorem merge_eq (l : List Int) : (l.mergeSort fun x y => decide (x ≤ y)) = sortI l := by
  have tr : ∀ a b c : Int, decide (a ≤ b) = true → decide (b ≤ c) = true → decide (a ≤ c) = true := fun a b c h1 h2 => by simp only [decide_eq_true_eq] at *; omega
  have to : ∀ a b : Int, (decide (a ≤ b) || decide (b ≤ a)) = true := fun a b => by simp only [Bool.or_eq_true, decide_eq_true_eq]; omega
  refine sorted_one ((List.mergeSort_perm l _).trans (sortI_perm l).symm) ((List.pairwise_mergeSort tr to l).imp fun h => of_decide_eq_true h) (sortI_sorted l)
theorem sortI_length (l : List Int) : (sortI l).length = l.length := (sortI_perm l).length_eq

/-- nothing that lay there has turned -/
theorem goes_below {β : Ren} {H : AHeap} {w w' : World} (hr : Rel β H w) (h : Below w.heap.size w w') : Goes β H w β H w' :=
  ⟨β.le_refl, ⟨fun i o s a b => (hr.obj i o s a b).mono β.le_refl (h.block _ (hr.blk i s b)), fun i s b => Nat.lt_of_lt_of_le (hr.blk i s b) h.size, hr.apart, hr.fresh⟩, h.os, h.tape, h.output, h.size, fun b hb _ => h.block b hb, fun _ _ h => h, fun _ _ h => h⟩

theorem logLe_upd {H : AHeap} {i b : Nat} {o : AObj} (hi : H.get i = some o) (hb : i < b) (o' : AObj) : LogLe b H (H.upd i (some o')) := by
  refine ⟨fun j hj hn => ?_, fun j hj => (mem_note i j H.log).2 (.inr hj), Nat.le_refl _, fun j hj hd => ?_, fun hw j hj => ?_, fun j hj => ?_⟩
  · rw [AHeap.get_upd, if_neg]
    exact fun e => hn ((mem_note i j H.log).2 (.inl e))
  · rw [AHeap.get_upd, if_neg]
    · exact hd
    · intro e; rw [e, hi] at hd; cases hd
  · have hj' : H.next ≤ j := hj
    rw [AHeap.get_upd, if_neg]
    · exact hw j hj'
    · intro e; subst e; rw [hw j hj'] at hi; cases hi
  · rcases (mem_note i j H.log).1 hj with rfl | h1
    · exact .inr (.inl (by rw [hi]; exact fun h => by cases h))
    · exact .inl h1

abbrev zv (x : Int) : Value := .int .i64 x
def intsOf : List Value → Option (List Int)
  | [] => some []
  | .int .i64 x :: l => (intsOf l).map (x :: ·)
  | _ => none
theorem intsOf_some : ∀ (l : List Value) (xs : List Int), intsOf l = some xs → l = xs.map zv
  | [], xs, h => by simp only [intsOf, Option.some.injEq] at h; subst h; rfl
  | v :: l, xs, h => by
    cases v with
    | int k x =>
      cases k <;> simp only [intsOf, reduceCtorEq] at h
      obtain ⟨ys, hy, rfl⟩ := Option.map_eq_some_iff.1 h
      rw [intsOf_some l ys hy]; rfl
    | _ => simp [intsOf] at h
theorem intsOf_map : ∀ xs : List Int, intsOf (xs.map zv) = some xs
  | [] => rfl
  | x :: l => by simp only [List.map_cons, zv, intsOf, intsOf_map l, Option.map_some]

theorem heap_put {w : World} {g o n : Nat} {cur : Array Value} {e : TypeId} {fr : Nat × Nat} (d : Array Int) (hb : w.heap[g]? = some (.cells cur e fr)) :
    (putRow (Value.int .i64) (Sort.ahead w n) g o d).heap[g]? = some (.cells (putCells (Value.int .i64) o d cur) e fr) := by
  simp [putRow, mapBlock, Sort.ahead, Array.getElem?_modify, hb, onCells]

/-- a row that holds numbers, as the library's sort asks for it -/
theorem row_holds {β : Ren} {H : AHeap} {w : World} (hr : Rel β H w) {i : Nat} {s : Spot} {xs : List Int} {elem : TypeId} {esz : Nat} (hi : H.get i = some (.row (xs.map zv) elem esz true)) (hs : β i = some s) :
    Holds (Value.int .i64) w s.blk s.shift xs.toArray := fun j hj => by
  obtain ⟨hown, hc, hz⟩ := hr.obj _ _ _ hi hs
  have hj : j < xs.length := by simpa using hj
  obtain ⟨v', h1, h2⟩ := hc j (zv xs[j]) (by simp [hj])
  obtain ⟨_, c, fz, hb, hsz, hf⟩ := hz rfl
  have e1 : xs.toArray[j]! = xs[j] := by simp [hj]
  rw [e1]
  cases h2
  refine ⟨h1, ?_⟩
  have hlt : s.shift + j < s.tot := by
    rw [← hsz]
    unfold World.cell? at h1
    simp only [hb] at h1
    simp at h1
    exact (Array.getElem?_eq_some_iff.1 h1).1
  unfold World.frozen?
  obtain ⟨lo, hi'⟩ := fz
  simp only [hb]
  exact hf _ hlt

/-- the row turned -/
theorem put_goes {β : Ren} {H : AHeap} {w : World} (hr : Rel β H w) {i : Nat} {s : Spot} {xs ys : List Int} {elem : TypeId} {esz : Nat} (hi : H.get i = some (.row (xs.map zv) elem esz true)) (hs : β i = some s) (hl : ys.length = xs.length) (n : Nat) (os : Array Obj) :
    Goes β H w β (H.upd i (some (.row (ys.map zv) elem esz true))) (grow (putRow (Value.int .i64) (Sort.ahead w n) s.blk s.shift ys.toArray) os) := by
  have hH := row_holds hr hi hs
  obtain ⟨hown, hc, hz⟩ := hr.obj _ _ _ hi hs
  have g1 : Goes β H w β (H.upd i (some (.row (ys.map zv) elem esz true))) (putRow (Value.int .i64) (Sort.ahead w n) s.blk s.shift ys.toArray) := by
    refine Goes.upd hr hi hs hown.symm _ rfl rfl rfl (by simp [Sort.ahead]) (fun b hb => ?_) ⟨hown, fun j v hj => ?_, fun _ => ?_⟩
    · simp [putRow, mapBlock, Sort.ahead, Array.getElem?_modify, Ne.symm hb]
    · rw [List.getElem?_map] at hj
      obtain ⟨y, hy, rfl⟩ := Option.map_eq_some_iff.1 hj
      have hlt := (List.getElem?_eq_some_iff.1 hy).1
      have h2 := cell?_putRow (Value.int .i64) (Sort.ahead w n) s.blk s.shift xs.toArray ys.toArray hH (by simp [hl]) j (by simpa using hlt)
      have e1 : ys.toArray[j]! = y := by simp [hy]
      rw [e1] at h2
      exact ⟨_, h2, .int _ _⟩
    · obtain ⟨he, c, fz, hb, hsz, hf⟩ := hz rfl
      exact ⟨he, _, fz, heap_put _ hb, by simp [putCells, hsz], hf⟩
  exact g1.trans (goes_below g1.rel ⟨rfl, rfl, rfl, by simp, fun k hk => heap_grow_old _ _ hk⟩)
end Go.Proofs.YtgpmlbkhjpdebaaGreat
