/- Rows of things, each of so many cells: reading, writing, cutting, growing them. No program in sight. -/
import Derived.Test.YtmflapajjghpmaaAmSym6
namespace Go.Proofs.Ytmflapajjghpmaa
open Go.RowKit

/-- things as cells -/
structure Enc (α : Type) where
  cells : α → List Value
  sz : Nat
  len : ∀ a, (cells a).length = sz
  one : ∀ a, (cells a).all oneV = true
namespace Enc
variable {α : Type} (E : Enc α)
def flat (l : List α) : List Value := l.flatMap E.cells
theorem flat_nil : E.flat [] = [] := rfl
theorem flat_cons (a : α) (l : List α) : E.flat (a :: l) = E.cells a ++ E.flat l := rfl
theorem flat_app (l m : List α) : E.flat (l ++ m) = E.flat l ++ E.flat m := by simp only [flat, List.flatMap_append]
theorem flat_one (a : α) : E.flat [a] = E.cells a := by simp only [flat, List.flatMap_cons, List.flatMap_nil, List.append_nil]
theorem flat_len (l : List α) : (E.flat l).length = l.length * E.sz := by
  induction l with
  | nil => simp [flat]
  | cons a l ih => rw [flat_cons, List.length_append, E.len, ih, List.length_cons, Nat.add_mul, Nat.one_mul, Nat.add_comm]
theorem flat_all (l : List α) : (E.flat l).all oneV = true := by
  induction l with
  | nil => rfl
  | cons a l ih => rw [flat_cons, List.all_append, E.one, ih]; rfl
theorem list_split {l : List α} {r : Nat} {a : α} (h : l[r]? = some a) : l = l.take r ++ (a :: l.drop (r + 1)) := by
  have hr := (List.getElem?_eq_some_iff.1 h).1
  conv => lhs; rw [← List.take_append_drop r l, List.drop_eq_getElem_cons hr]
  rw [(List.getElem?_eq_some_iff.1 h).2]
theorem flat_split {l : List α} {r : Nat} {a : α} (h : l[r]? = some a) : E.flat l = E.flat (l.take r) ++ (E.cells a ++ E.flat (l.drop (r + 1))) := by
  conv => lhs; rw [list_split h]
  rw [flat_app, flat_cons]
theorem take_len {l : List α} {r : Nat} (h : r < l.length) : (E.flat (l.take r)).length = r * E.sz := by rw [flat_len, List.length_take, Nat.min_eq_left (Nat.le_of_lt h)]
theorem flat_get {l : List α} {r : Nat} {a : α} (h : l[r]? = some a) (pre post : List Value) {off : Nat} (ho : off < E.sz) : (pre ++ (E.flat l ++ post))[pre.length + r * E.sz + off]? = (E.cells a)[off]? := by
  have hr := (List.getElem?_eq_some_iff.1 h).1
  have hl := E.take_len hr
  rw [List.getElem?_append_right (by omega), E.flat_split h, List.append_assoc, List.getElem?_append_right (by omega), List.append_assoc, List.getElem?_append_left (by rw [E.len]; omega)]
  congr 1; omega
theorem flat_set {l : List α} {r : Nat} {a a' : α} (h : l[r]? = some a) (pre post : List Value) {off : Nat} {v : Value} (ho : off < E.sz) (hc : E.cells a' = (E.cells a).set off v) :
    (pre ++ (E.flat l ++ post)).set (pre.length + r * E.sz + off) v = pre ++ (E.flat (l.set r a') ++ post) := by
  have hr := (List.getElem?_eq_some_iff.1 h).1
  have hl := E.take_len hr
  have e : l.set r a' = l.take r ++ (a' :: l.drop (r + 1)) := by rw [List.set_eq_take_append_cons_drop, if_pos hr]
  rw [List.set_append_right _ _ (by omega), e, flat_app, flat_cons, E.flat_split h, List.append_assoc, List.set_append_right _ _ (by omega), List.append_assoc, List.set_append_left _ _ (by rw [E.len]; omega), hc]
  rw [show pre.length + r * E.sz + off - pre.length - (E.flat (l.take r)).length = off from by omega]
  simp only [List.append_assoc]
theorem flat_cut {l : List α} {r : Nat} {a : α} (h : l[r]? = some a) (pre post : List Value) {off m : Nat} (ho : off + m ≤ E.sz) : cut (pre ++ (E.flat l ++ post)) (pre.length + r * E.sz + off) m = some (((E.cells a).drop off).take m) := by
  have hr := (List.getElem?_eq_some_iff.1 h).1
  have hl := E.take_len hr
  have hs : pre ++ (E.flat l ++ post) = (pre ++ (E.flat (l.take r) ++ (E.cells a).take off)) ++ ((((E.cells a).drop off).take m) ++ (((E.cells a).drop off).drop m ++ (E.flat (l.drop (r + 1)) ++ post))) := by
    rw [E.flat_split h]
    simp only [List.append_assoc]
    congr 2
    rw [← List.append_assoc ((((E.cells a).drop off).take m)), List.take_append_drop, ← List.append_assoc (List.take off _), List.take_append_drop]
  refine cut_in ?_ _ _ ?_ hs
  · rw [List.length_take, List.length_drop, E.len]; omega
  · rw [List.length_append, List.length_append, hl, List.length_take, E.len]; omega
/-- the whole of a row, or a piece of it -/
theorem flat_cut_all (l : List α) (pre post : List Value) {n : Nat} (hn : n ≤ l.length) : cut (pre ++ (E.flat l ++ post)) pre.length (n * E.sz) = some (E.flat (l.take n)) := by
  have hs : pre ++ (E.flat l ++ post) = pre ++ (E.flat (l.take n) ++ (E.flat (l.drop n) ++ post)) := by
    rw [← List.append_assoc (E.flat (l.take n)), ← flat_app, List.take_append_drop]
  refine cut_in ?_ _ _ rfl hs
  rw [flat_len, List.length_take, Nat.min_eq_left hn]
end Enc

def shiftA (k : Nat) (a : Addr) : Addr := ⟨a.block, a.off + k, a.spot⟩
/-- where a list of things lies -/
def SlAt {α : Type} (E : Enc α) (T : TypeId) (w : Bool) (o : Tr AObj) (nx : Nat) (a : Option Addr) (l : List α) : Prop :=
  (a = none ∧ l = []) ∨ ∃ j p pre post, a = some ⟨j, p, none⟩ ∧ j < nx ∧ o.get j = some (.row (pre ++ (E.flat l ++ post)) T E.sz w) ∧ pre.length = p
section
variable {α : Type} {E : Enc α} {T : TypeId} {w : Bool} {o o' : Tr AObj} {nx nx' : Nat} {a : Option Addr} {l : List α}
theorem SlAt.nil : SlAt E T w o nx none [] := .inl ⟨rfl, rfl⟩
theorem SlAt.some {r : Nat} (h : SlAt E T w o nx a l) (hr : r < l.length) : ∃ j p pre post, a = some ⟨j, p, none⟩ ∧ j < nx ∧ o.get j = some (.row (pre ++ (E.flat l ++ post)) T E.sz w) ∧ pre.length = p := by
  rcases h with ⟨_, rfl⟩ | h
  · simp at hr
  · exact h
theorem SlAt.new {j : Nat} (hj : j < nx) (h : o.get j = Option.some (.row (E.flat l) T E.sz w)) : SlAt E T w o nx (Option.some ⟨j, 0, none⟩) l := .inr ⟨j, 0, [], [], rfl, hj, by rw [List.append_nil]; exact h, rfl⟩
theorem SlAt.keep (h : SlAt E T w o nx a l) (hk : ∀ ad, a = Option.some ad → o'.get ad.block = o.get ad.block) (hn : nx ≤ nx') : SlAt E T w o' nx' a l := by
  rcases h with h | ⟨j, p, pre, post, rfl, hj, hg, hp⟩
  · exact .inl h
  · exact .inr ⟨j, p, pre, post, rfl, Nat.lt_of_lt_of_le hj hn, (hk _ rfl).trans hg, hp⟩
theorem SlAt.lt (h : SlAt E T w o nx a l) {ad : Addr} (he : a = Option.some ad) : ad.block < nx := by
  rcases h with ⟨rfl, _⟩ | ⟨j, p, pre, post, rfl, hj, hg, hp⟩
  · cases he
  · cases he; exact hj
/-- a piece of a list lies there too -/
theorem SlAt.cut (h : SlAt E T w o nx a l) {i m : Nat} (hi : i ≤ m) (hm : m ≤ l.length) (b : Bool) (hb : b = true → i = m) : SlAt E T w o nx (if b then a else a.map (shiftA (i * E.sz))) ((l.take m).drop i) := by
  rcases h with ⟨rfl, rfl⟩ | ⟨j, p, pre, post, rfl, hj, hg, hp⟩
  · left; cases b <;> simp
  · right
    cases b with
    | true =>
      have e : (l.take m).drop i = [] := List.drop_eq_nil_of_le (by rw [List.length_take]; have := hb rfl; omega)
      exact ⟨j, p, pre, E.flat l ++ post, rfl, hj, by rw [e, Enc.flat_nil, List.nil_append]; exact hg, hp⟩
    | false =>
      refine ⟨j, p + i * E.sz, pre ++ E.flat (l.take i), E.flat (l.drop m) ++ post, rfl, hj, ?_, ?_⟩
      · rw [hg]
        have : E.flat l = E.flat (l.take i) ++ (E.flat ((l.take m).drop i) ++ E.flat (l.drop m)) := by
          rw [← E.flat_app, ← E.flat_app]
          congr 1
          conv => lhs; rw [← List.take_append_drop m l, ← List.take_append_drop i (l.take m)]
          rw [List.take_take, Nat.min_eq_left hi, List.append_assoc]
        rw [this]; simp only [List.append_assoc]
      · rw [List.length_append, E.flat_len, List.length_take, Nat.min_eq_left (by omega), hp]
/-- what append reads of it -/
theorem SlAt.add (h : SlAt E T w o nx a l) {lg : List Nat} {c : Nat} (hc : a = none → c = 0) : addCells E.sz (.slice a l.length c) ⟨o, nx', lg⟩ = Option.some (l.length, E.flat l) := by
  rcases h with ⟨rfl, rfl⟩ | ⟨j, p, pre, post, rfl, hj, hg, hp⟩
  · rw [hc rfl]; rfl
  · have := E.flat_cut_all l pre post (Nat.le_refl l.length)
    rw [List.take_length, hp] at this
    simp only [addCells, heap_get, hg, this, Option.map_some]
end

/-! ### cutting -/
def cutS (sz : Nat) (a : Option Addr) (c i m : Nat) : Value := match c with
  | 0 => .slice (if Nat.beq i m then a else a.map (shiftA (i * sz))) (m - i) 0
  | c + 1 => .slice (if Nat.beq c i then a else a.map (shiftA (i * sz))) (m - i) (c - i + 1)
section
variable {α : Type} {E : Enc α} {T t : TypeId} {w : Bool} {P : Program} {o : Tr AObj} {nx nx' : Nat} {lg : List Nat} {a : Option Addr} {l : List α}
theorem aSlice_at (he : elemOf P t = some (none, E.sz)) (h : SlAt E T w o nx a l) {c : Nat} (hc : a = none → c = 0) {lo hi : Option Value} {i m : Nat} (hlo : (boundOf lo).map (fun x => x.getD 0) = some i) (hhi : (boundOf hi).map (fun x => x.getD l.length) = some m) (him : i ≤ m) (hm : m ≤ l.length) :
    aSlice P t (.slice a l.length c) lo hi none ⟨o, nx', lg⟩ = some (cutS E.sz a c i m) := by
  unfold elemOf at he
  split at he
  · rename_i el hu
    obtain ⟨inf, h1, h2⟩ := Option.map_eq_some_iff.1 he
    obtain ⟨x, hx, rfl⟩ := Option.map_eq_some_iff.1 hlo
    obtain ⟨y, hy, rfl⟩ := Option.map_eq_some_iff.1 hhi
    have hs : inf.size = E.sz := by injection h2
    rcases h with ⟨rfl, rfl⟩ | ⟨j, p, pre, post, rfl, hj, hg, hp⟩
    · rw [hc rfl]
      have hy0 : y.getD 0 = 0 := by cases y with
        | none => rfl
        | some y => simp at hm; simpa using hm
      have hx0 : x.getD 0 = 0 := by
        simp only [List.length_nil, hy0] at him; omega
      simp only [List.length_nil] at hy0 hy ⊢
      have hb0 : boundOf none = some none := rfl
      simp only [aSlice, hu, h1, hx, hy, hb0, hx0, hy0, Option.getD_none, Nat.beq_refl, Bool.and_self, Option.isNone_none, Bool.true_or, cond, cutS, if_true]
    · have k1 : Nat.ble (x.getD 0) (y.getD l.length) = true := Nat.ble_eq ▸ him
      have k2 : Nat.ble (y.getD l.length) l.length = true := Nat.ble_eq ▸ hm
      have hb0 : boundOf none = some none := rfl
      simp only [aSlice, hu, h1, hx, hy, hb0, k1, k2, Option.getD_none, ble_self, Option.isNone_none, Bool.true_or, Bool.and_self, cond, hs]
      cases c with
      | zero =>
        have hk : capKnown E.sz j ⟨o, nx', lg⟩ = true := by simp [capKnown, heap_get, hg]
        simp only [hk, cutS]
        cases hb : Nat.beq (x.getD 0) (y.getD l.length) with
        | true =>
          have hb := Nat.eq_of_beq_eq_true hb
          simp only [cond, if_true, hb, Nat.sub_self]
        | false => rfl
      | succ c =>
        simp only [cutS]
        cases Nat.beq c (x.getD 0) <;> rfl
  · obtain ⟨inf, h1, h2⟩ := Option.map_eq_some_iff.1 he
    cases h2
  · cases he
end
end Go.Proofs.Ytmflapajjghpmaa
