/- Frame: lists of values and of tasks in rows, guests' or own. -/
import Derived.Test.YteomehedmfemiaaTabDef
import Derived.Test.YteomehedmfemiaaTabApp
import Derived.Test.YteomehedmfemiaaAmGo
set_option linter.unusedSimpArgs false
set_option linter.unusedVariables false
set_option maxRecDepth 100000
namespace Go.Proofs.Yteomehedmfemiaa
open Go.RowKit
/-- a task: its kind and numbers -/
abbrev TT := Int × Int × Int × Int
theorem cut_len {cells : List Value} {o n : Nat} {l : List Value} (h : cut cells o n = some l) : l.length = n := (cut_some h).1
theorem cut_part {cells l : List Value} {o n i m : Nat} (h : cut cells o n = some l) (hi : i + m ≤ n) : cut cells (o + i) m = some ((l.drop i).take m) := by
  unfold cut at h ⊢
  cases hb : Nat.beq ((cells.drop o).take n).length n with
  | false => simp only [hb, cond] at h; cases h
  | true =>
    simp only [hb, cond, Option.some.injEq] at h
    have hl := Nat.eq_of_beq_eq_true hb
    subst h
    have e : ((cells.drop (o + i)).take m) = ((((cells.drop o).take n).drop i).take m) := by
      rw [List.drop_take, List.drop_drop, List.take_take, Nat.min_eq_left (by omega)]
    rw [← e]
    have hm : ((cells.drop (o + i)).take m).length = m := by
      rw [List.length_take, List.length_drop]
      rw [List.length_take, List.length_drop] at hl
      omega
    simp only [hm, Nat.beq_refl, cond]
theorem leave_newR {o o' : Tr AObj} {nx nx' : Nat} {lg l : List Nat} {v : Value} (hl : l.all (fun i => Nat.ble nx i) = true) (hv : lowV nx v = false) : leave ⟨o, nx, lg⟩ v ⟨o', nx', l⟩ = (v, ⟨o', nx', lg⟩) := by
  unfold leave
  simp only [hl, hv, Bool.and_false, cond]
  have : (l.filter fun i => Nat.blt i nx) = [] := by
    rw [List.filter_eq_nil_iff]
    intro x hx
    have := List.all_eq_true.1 hl x hx
    rw [Nat.ble_eq] at this
    rw [Nat.blt_eq]; omega
  rw [this]; rfl
def vvC (l : List VV) : List Value := l.flatMap fun p => [.int .u8 p.1, .int .i64 p.2]
theorem vvC_len (l : List VV) : (vvC l).length = l.length * 2 := by
  induction l with
  | nil => rfl
  | cons v l ih => rw [show vvC (v :: l) = [.int .u8 (v).1, .int .i64 (v).2] ++ vvC l from rfl, List.length_append, ih, List.length_cons]; simp only [List.length_cons, List.length_nil]; omega
theorem vvC_at {l : List VV} {k : Nat} (h : k < l.length) : ((vvC l).drop (k * 2)).take 2 = [.int .u8 (l[k]).1, .int .i64 (l[k]).2] := by
  have h1 : l = l.take k ++ (l[k] :: l.drop (k + 1)) := by rw [← List.drop_eq_getElem_cons h, List.take_append_drop]
  have e : vvC l = vvC (l.take k) ++ ([.int .u8 (l[k]).1, .int .i64 (l[k]).2] ++ vvC (l.drop (k + 1))) := by
    conv => lhs; rw [h1]
    simp only [vvC, List.flatMap_append, List.flatMap_cons, List.append_assoc]
  rw [e, List.drop_append_of_le_length (by rw [vvC_len, List.length_take, Nat.min_eq_left (by omega)]; exact Nat.le_refl _), List.drop_eq_nil_of_le (by rw [vvC_len, List.length_take, Nat.min_eq_left (by omega)]; exact Nat.le_refl _)]
  rfl
/-- a slice of such things: nil, or it leads to a row -/
def SlV (o : Tr AObj) (nx : Nat) (v : Value) (l : List VV) : Prop := (v = .slice none 0 0 ∧ l = []) ∨ ∃ j off c et es w cells, v = .slice (some ⟨j, off, none⟩) l.length c ∧ j < nx ∧ o.get j = some (.row cells et es w) ∧ cut cells off (l.length * 2) = some (vvC l)
theorem SlV.slice {o : Tr AObj} {nx : Nat} {v : Value} {l : List VV} (h : SlV o nx v l) : ∃ a c, v = .slice a l.length c := by
  rcases h with ⟨rfl, rfl⟩ | ⟨j, off, c, et, es, w, cells, rfl, _⟩
  · exact ⟨_, _, rfl⟩
  · exact ⟨_, _, rfl⟩
theorem SlV.keep {o o' : Tr AObj} {nx nx' : Nat} {v : Value} {l : List VV} (h : SlV o nx v l) (hn : nx ≤ nx') (hk : ∀ x, x < nx → o'.get x = o.get x) : SlV o' nx' v l := by
  rcases h with h | ⟨j, off, c, et, es, w, cells, h1, h2, h3, h4⟩
  · exact .inl h
  · exact .inr ⟨j, off, c, et, es, w, cells, h1, by omega, by rw [hk j h2]; exact h3, h4⟩
/-- one of its things -/
theorem SlV.at {o : Tr AObj} {nx : Nat} {a : Option Addr} {c : Nat} {l : List VV} (h : SlV o nx (.slice a l.length c) l) {k : Nat} (hk : k < l.length) : ∃ j off cells et es w, a = some ⟨j, off, none⟩ ∧ j < nx ∧ o.get j = some (.row cells et es w) ∧ cut cells (off + k * 2) 2 = some [.int .u8 (l[k]).1, .int .i64 (l[k]).2] := by
  rcases h with ⟨_, rfl⟩ | ⟨j, off, c', et, es, w, cells, h1, h2, h3, h4⟩
  · simp at hk
  · cases h1
    exact ⟨j, off, cells, et, es, w, rfl, h2, h3, by rw [cut_part h4 (by omega), vvC_at hk]⟩
def ttC (l : List TT) : List Value := l.flatMap fun p => [.int .u8 p.1, .int .i64 p.2.1, .int .i64 p.2.2.1, .int .i64 p.2.2.2]
theorem ttC_len (l : List TT) : (ttC l).length = l.length * 4 := by
  induction l with
  | nil => rfl
  | cons v l ih => rw [show ttC (v :: l) = [.int .u8 (v).1, .int .i64 (v).2.1, .int .i64 (v).2.2.1, .int .i64 (v).2.2.2] ++ ttC l from rfl, List.length_append, ih, List.length_cons]; simp only [List.length_cons, List.length_nil]; omega
theorem ttC_at {l : List TT} {k : Nat} (h : k < l.length) : ((ttC l).drop (k * 4)).take 4 = [.int .u8 (l[k]).1, .int .i64 (l[k]).2.1, .int .i64 (l[k]).2.2.1, .int .i64 (l[k]).2.2.2] := by
  have h1 : l = l.take k ++ (l[k] :: l.drop (k + 1)) := by rw [← List.drop_eq_getElem_cons h, List.take_append_drop]
  have e : ttC l = ttC (l.take k) ++ ([.int .u8 (l[k]).1, .int .i64 (l[k]).2.1, .int .i64 (l[k]).2.2.1, .int .i64 (l[k]).2.2.2] ++ ttC (l.drop (k + 1))) := by
    conv => lhs; rw [h1]
    simp only [ttC, List.flatMap_append, List.flatMap_cons, List.append_assoc]
  rw [e, List.drop_append_of_le_length (by rw [ttC_len, List.length_take, Nat.min_eq_left (by omega)]; exact Nat.le_refl _), List.drop_eq_nil_of_le (by rw [ttC_len, List.length_take, Nat.min_eq_left (by omega)]; exact Nat.le_refl _)]
  rfl
/-- a slice of such things: nil, or it leads to a row -/
def SlT (o : Tr AObj) (nx : Nat) (v : Value) (l : List TT) : Prop := (v = .slice none 0 0 ∧ l = []) ∨ ∃ j off c et es w cells, v = .slice (some ⟨j, off, none⟩) l.length c ∧ j < nx ∧ o.get j = some (.row cells et es w) ∧ cut cells off (l.length * 4) = some (ttC l)
theorem SlT.slice {o : Tr AObj} {nx : Nat} {v : Value} {l : List TT} (h : SlT o nx v l) : ∃ a c, v = .slice a l.length c := by
  rcases h with ⟨rfl, rfl⟩ | ⟨j, off, c, et, es, w, cells, rfl, _⟩
  · exact ⟨_, _, rfl⟩
  · exact ⟨_, _, rfl⟩
theorem SlT.keep {o o' : Tr AObj} {nx nx' : Nat} {v : Value} {l : List TT} (h : SlT o nx v l) (hn : nx ≤ nx') (hk : ∀ x, x < nx → o'.get x = o.get x) : SlT o' nx' v l := by
  rcases h with h | ⟨j, off, c, et, es, w, cells, h1, h2, h3, h4⟩
  · exact .inl h
  · exact .inr ⟨j, off, c, et, es, w, cells, h1, by omega, by rw [hk j h2]; exact h3, h4⟩
/-- one of its things -/
theorem SlT.at {o : Tr AObj} {nx : Nat} {a : Option Addr} {c : Nat} {l : List TT} (h : SlT o nx (.slice a l.length c) l) {k : Nat} (hk : k < l.length) : ∃ j off cells et es w, a = some ⟨j, off, none⟩ ∧ j < nx ∧ o.get j = some (.row cells et es w) ∧ cut cells (off + k * 4) 4 = some [.int .u8 (l[k]).1, .int .i64 (l[k]).2.1, .int .i64 (l[k]).2.2.1, .int .i64 (l[k]).2.2.2] := by
  rcases h with ⟨_, rfl⟩ | ⟨j, off, c', et, es, w, cells, h1, h2, h3, h4⟩
  · simp at hk
  · cases h1
    exact ⟨j, off, cells, et, es, w, rfl, h2, h3, by rw [cut_part h4 (by omega), ttC_at hk]⟩
theorem build_V1 : ∀ (a b : Int) fid H, buildSliceV Try.prog 26 1 [(0, .agg #[.int .u8 a, .int .i64 b])] fid H = some (.slice (some ⟨fid, 0, none⟩) 1 2, newRowA fid [.int .u8 a, .int .i64 b] 41 2 H) := fun a b fid H => by kernel_rfl
theorem app_V1 : appOf Try.prog 26 26 = some (41, 2, 16) := by kernel_rfl
theorem listV_nil (v : VV) : ∀ (o : Tr AObj) (nx : Nat) (lg : List Nat) (fid q : Nat), o.get q = some (.row [.int .u8 (v).1, .int .i64 (v).2] 41 2 true) →
    aAppend Try.prog 26 26 (.slice none 0 0) (.slice (some ⟨q, 0, none⟩) 1 2) fid ⟨o, nx, lg⟩ = some (.slice (some ⟨fid, 0, none⟩) 1 0, ⟨o.put fid (some (.row (vvC [v]) 41 2 true)), nx, lg⟩) := by
  intro o nx lg fid q hq
  have hadd : addCells 2 (.slice (some ⟨q, 0, none⟩) 1 2) ⟨o, nx, lg⟩ = some (0 + 1, [.int .u8 (v).1, .int .i64 (v).2]) := by
    simp only [addCells, qH, hq]; rfl
  rw [app_none app_V1 hadd rfl]; rfl
theorem vvC_snoc (l : List VV) (v : VV) : vvC (l ++ [v]) = vvC l ++ [.int .u8 (v).1, .int .i64 (v).2] := by
  simp only [vvC, List.flatMap_append, List.flatMap_cons, List.flatMap_nil, List.append_nil]
theorem vvC_cut (l : List VV) : cut (vvC l) 0 (l.length * 2) = some (vvC l) := by
  unfold cut
  rw [List.drop_zero, ← vvC_len, List.take_length]
  simp only [Nat.beq_refl, cond]
theorem listV_row (v : VV) {l : List VV} {k : Nat} (hk : l.length = k) (hl : k < 1048577) : ∀ (o : Tr AObj) (nx : Nat) (lg : List Nat) (fid q j : Nat), o.get q = some (.row [.int .u8 (v).1, .int .i64 (v).2] 41 2 true) → o.get j = some (.row (vvC l) 41 2 true) →
    aAppend Try.prog 26 26 (.slice (some ⟨j, 0, none⟩) k 0) (.slice (some ⟨q, 0, none⟩) 1 2) fid ⟨o, nx, lg⟩ = some (.slice (some ⟨fid, 0, none⟩) (k + 1) 0, ⟨(o.put j none).put fid (some (.row (vvC (l ++ [v])) 41 2 true)), nx, noteId j lg⟩) := by
  intro o nx lg fid q j hq hj
  have hadd : addCells 2 (.slice (some ⟨q, 0, none⟩) 1 2) ⟨o, nx, lg⟩ = some (0 + 1, [.int .u8 (v).1, .int .i64 (v).2]) := by
    simp only [addCells, qH, hq]; rfl
  have hr : roomOk (k + (0 + 1)) 16 = true := by unfold roomOk; rw [Bool.and_eq_true, Nat.ble_eq, Nat.ble_eq]; omega
  rw [app_row app_V1 hadd hj (show cut (vvC l) 0 (k * 2) = some (vvC l) by rw [← hk]; exact vvC_cut l) hr rfl, vvC_snoc]; rfl
/-- a list that grows -/
def AccV (o : Tr AObj) (lo nx : Nat) (v : Value) (l : List VV) : Prop := (v = .slice none 0 0 ∧ l = []) ∨ ∃ j, v = .slice (some ⟨j, 0, none⟩) l.length 0 ∧ lo ≤ j ∧ j < nx ∧ o.get j = some (.row (vvC l) 41 2 true)
/-- a list of its own, new -/
def NewV (o : Tr AObj) (nx : Nat) (lg : List Nat) (l : List VV) (r : Value × AHeap) : Prop :=
  ∃ v o' nx', r = (v, ⟨o', nx', lg⟩) ∧ nx ≤ nx' ∧ (∀ x, x < nx → o'.get x = o.get x) ∧ AccV o' nx nx' v l
theorem AccV.sl {o : Tr AObj} {lo nx : Nat} {v : Value} {l : List VV} (h : AccV o lo nx v l) : SlV o nx v l := by
  rcases h with h | ⟨j, rfl, h1, h2, h3⟩
  · exact .inl h
  · exact .inr ⟨j, 0, 0, _, _, _, _, rfl, h2, h3, vvC_cut l⟩
theorem AccV.keep {o o' : Tr AObj} {lo lo' nx nx' : Nat} {v : Value} {l : List VV} (h : AccV o lo nx v l) (hl : lo' ≤ lo) (hn : nx ≤ nx') (hk : ∀ x, lo ≤ x → x < nx → o'.get x = o.get x) : AccV o' lo' nx' v l := by
  rcases h with h | ⟨j, h1, h2, h3, h4⟩
  · exact .inl h
  · exact .inr ⟨j, h1, by omega, by omega, by rw [hk j h2 h3]; exact h4⟩
theorem AccV.low {o : Tr AObj} {lo nx m : Nat} {v : Value} {l : List VV} (h : AccV o lo nx v l) (hm : m ≤ lo) (hv : low1 m v = true) : v = .slice none 0 0 ∧ l = [] := by
  rcases h with h | ⟨j, rfl, h2, h3, h4⟩
  · exact h
  · rw [show low1 m (.slice (some ⟨j, 0, none⟩) l.length 0) = false from blt_new (Nat.le_trans hm h2)] at hv; cases hv
theorem build_T1 : ∀ (a b c d : Int) fid H, buildSliceV Try.prog 27 1 [(0, .agg #[.int .u8 a, .int .i64 b, .int .i64 c, .int .i64 d])] fid H = some (.slice (some ⟨fid, 0, none⟩) 1 2, newRowA fid [.int .u8 a, .int .i64 b, .int .i64 c, .int .i64 d] 92 4 H) := fun a b c d fid H => by kernel_rfl
theorem app_T1 : appOf Try.prog 27 27 = some (92, 4, 32) := by kernel_rfl
theorem listT_nil (v : TT) : ∀ (o : Tr AObj) (nx : Nat) (lg : List Nat) (fid q : Nat), o.get q = some (.row [.int .u8 (v).1, .int .i64 (v).2.1, .int .i64 (v).2.2.1, .int .i64 (v).2.2.2] 92 4 true) →
    aAppend Try.prog 27 27 (.slice none 0 0) (.slice (some ⟨q, 0, none⟩) 1 2) fid ⟨o, nx, lg⟩ = some (.slice (some ⟨fid, 0, none⟩) 1 0, ⟨o.put fid (some (.row (ttC [v]) 92 4 true)), nx, lg⟩) := by
  intro o nx lg fid q hq
  have hadd : addCells 4 (.slice (some ⟨q, 0, none⟩) 1 2) ⟨o, nx, lg⟩ = some (0 + 1, [.int .u8 (v).1, .int .i64 (v).2.1, .int .i64 (v).2.2.1, .int .i64 (v).2.2.2]) := by
    simp only [addCells, qH, hq]; rfl
  rw [app_none app_T1 hadd rfl]; rfl
theorem ttC_snoc (l : List TT) (v : TT) : ttC (l ++ [v]) = ttC l ++ [.int .u8 (v).1, .int .i64 (v).2.1, .int .i64 (v).2.2.1, .int .i64 (v).2.2.2] := by
  simp only [ttC, List.flatMap_append, List.flatMap_cons, List.flatMap_nil, List.append_nil]
theorem ttC_cut (l : List TT) : cut (ttC l) 0 (l.length * 4) = some (ttC l) := by
  unfold cut
  rw [List.drop_zero, ← ttC_len, List.take_length]
  simp only [Nat.beq_refl, cond]
theorem listT_row (v : TT) {l : List TT} {k : Nat} (hk : l.length = k) (hl : k < 1048577) : ∀ (o : Tr AObj) (nx : Nat) (lg : List Nat) (fid q j : Nat), o.get q = some (.row [.int .u8 (v).1, .int .i64 (v).2.1, .int .i64 (v).2.2.1, .int .i64 (v).2.2.2] 92 4 true) → o.get j = some (.row (ttC l) 92 4 true) →
    aAppend Try.prog 27 27 (.slice (some ⟨j, 0, none⟩) k 0) (.slice (some ⟨q, 0, none⟩) 1 2) fid ⟨o, nx, lg⟩ = some (.slice (some ⟨fid, 0, none⟩) (k + 1) 0, ⟨(o.put j none).put fid (some (.row (ttC (l ++ [v])) 92 4 true)), nx, noteId j lg⟩) := by
  intro o nx lg fid q j hq hj
  have hadd : addCells 4 (.slice (some ⟨q, 0, none⟩) 1 2) ⟨o, nx, lg⟩ = some (0 + 1, [.int .u8 (v).1, .int .i64 (v).2.1, .int .i64 (v).2.2.1, .int .i64 (v).2.2.2]) := by
    simp only [addCells, qH, hq]; rfl
  have hr : roomOk (k + (0 + 1)) 32 = true := by unfold roomOk; rw [Bool.and_eq_true, Nat.ble_eq, Nat.ble_eq]; omega
  rw [app_row app_T1 hadd hj (show cut (ttC l) 0 (k * 4) = some (ttC l) by rw [← hk]; exact ttC_cut l) hr rfl, ttC_snoc]; rfl
/-- a list that grows -/
def AccT (o : Tr AObj) (lo nx : Nat) (v : Value) (l : List TT) : Prop := (v = .slice none 0 0 ∧ l = []) ∨ ∃ j, v = .slice (some ⟨j, 0, none⟩) l.length 0 ∧ lo ≤ j ∧ j < nx ∧ o.get j = some (.row (ttC l) 92 4 true)
/-- a list of its own, new -/
def NewT (o : Tr AObj) (nx : Nat) (lg : List Nat) (l : List TT) (r : Value × AHeap) : Prop :=
  ∃ v o' nx', r = (v, ⟨o', nx', lg⟩) ∧ nx ≤ nx' ∧ (∀ x, x < nx → o'.get x = o.get x) ∧ AccT o' nx nx' v l
theorem AccT.sl {o : Tr AObj} {lo nx : Nat} {v : Value} {l : List TT} (h : AccT o lo nx v l) : SlT o nx v l := by
  rcases h with h | ⟨j, rfl, h1, h2, h3⟩
  · exact .inl h
  · exact .inr ⟨j, 0, 0, _, _, _, _, rfl, h2, h3, ttC_cut l⟩
theorem AccT.keep {o o' : Tr AObj} {lo lo' nx nx' : Nat} {v : Value} {l : List TT} (h : AccT o lo nx v l) (hl : lo' ≤ lo) (hn : nx ≤ nx') (hk : ∀ x, lo ≤ x → x < nx → o'.get x = o.get x) : AccT o' lo' nx' v l := by
  rcases h with h | ⟨j, h1, h2, h3, h4⟩
  · exact .inl h
  · exact .inr ⟨j, h1, by omega, by omega, by rw [hk j h2 h3]; exact h4⟩
theorem AccT.low {o : Tr AObj} {lo nx m : Nat} {v : Value} {l : List TT} (h : AccT o lo nx v l) (hm : m ≤ lo) (hv : low1 m v = true) : v = .slice none 0 0 ∧ l = [] := by
  rcases h with h | ⟨j, rfl, h2, h3, h4⟩
  · exact h
  · rw [show low1 m (.slice (some ⟨j, 0, none⟩) l.length 0) = false from blt_new (Nat.le_trans hm h2)] at hv; cases hv
def ttv (x : TT) : Value := .agg #[.int .u8 x.1, .int .i64 x.2.1, .int .i64 x.2.2.1, .int .i64 x.2.2.2]
theorem tt_eq (d : Nat) (x y : TT) : qval Try.prog (Op.equalIn (d + 2) 92 (ttv x) (ttv y)) = some (decide (x = y)) := by
  obtain ⟨a, b, c, e⟩ := x
  obtain ⟨a', b', c', e'⟩ := y
  rw [ttv, ttv, q_struct (d + 1) _ _ _ _ Try.underlying92 (by kernel_rfl)]
  have p1 : ∀ x y z u : Int, qval Try.prog (part 5 #[Value.int .u8 x, Value.int .i64 y, Value.int .i64 z, Value.int .i64 u] 0) = some (.int .u8 x) := fun x y z u => by kernel_rfl
  have p2 : ∀ x y z u : Int, qval Try.prog (part 3 #[Value.int .u8 x, Value.int .i64 y, Value.int .i64 z, Value.int .i64 u] 1) = some (.int .i64 y) := fun x y z u => by kernel_rfl
  have p3 : ∀ x y z u : Int, qval Try.prog (part 3 #[Value.int .u8 x, Value.int .i64 y, Value.int .i64 z, Value.int .i64 u] 2) = some (.int .i64 z) := fun x y z u => by kernel_rfl
  have p4 : ∀ x y z u : Int, qval Try.prog (part 3 #[Value.int .u8 x, Value.int .i64 y, Value.int .i64 z, Value.int .i64 u] 3) = some (.int .i64 u) := fun x y z u => by kernel_rfl
  simp only [qFields, ne_eq, p1, p2, p3, p4, Option.bind_some, q_int d _ _ _ _ _ Try.underlying5, q_int d _ _ _ _ _ Try.underlying3]
  by_cases h1 : a = a' <;> by_cases h2 : b = b' <;> by_cases h3 : c = c' <;> by_cases h4 : e = e' <;> simp [h1, h2, h3, h4, Prod.ext_iff]
theorem tt_neqV {cx cy : Bool} (a b c d a' b' c' d' : Int) : binV Try.prog .neq 92 cx cy (.agg #[.int .u8 a, .int .i64 b, .int .i64 c, .int .i64 d]) (.agg #[.int .u8 a', .int .i64 b', .int .i64 c', .int .i64 d']) = some (.bool (!decide (((a, b, c, d) : TT) = (a', b', c', d')))) := by
  refine binV_of (fun _ _ => by kernel_rfl) ?_ rfl rfl rfl
  show qval Try.prog (do pure (Value.bool (!(← Op.equalIn (9998 + 2) 92 (ttv (a, b, c, d)) (ttv (a', b', c', d')))))) = _
  simp only [qval_bind, tt_eq, Option.bind_some]; rfl
end Go.Proofs.Yteomehedmfemiaa
