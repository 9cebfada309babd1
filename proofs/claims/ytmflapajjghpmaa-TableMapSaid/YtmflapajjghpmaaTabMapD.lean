/- TableMap: the law's variables and memory. -/
import Derived.Test.YtmflapajjghpmaaTabMap2
namespace Go.Proofs.Ytmflapajjghpmaa
open Go.RowKit
set_option linter.unusedSimpArgs false
set_option linter.unusedVariables false

def ordV (b7 : Option Nat) (ord : List Int) : Value := .slice (b7.map fun b => ⟨b, 0, none⟩) ord.length 0
structure SideIs (o : Tr AObj) (nx i m : Nat) (a : Option Nat) (qw : Nat) (W : Want) (b7 : Option Nat) (ord : List Int) : Prop where
  q2 : 2 ≤ qw
  qn : qw < nx
  qm : ¬ Mine i m a qw
  want : ∃ es c, o.get qw = some (.map es c) ∧ WantIs es W
  list : (b7 = none ∧ ord = []) ∨ ∃ b, b7 = some b ∧ ord ≠ [] ∧ 2 ≤ b ∧ b < nx ∧ b ≠ qw ∧ ¬ Mine i m a b ∧ o.get b = some (.row (ord.map (Value.int .i64)) 3 1 true)
theorem SideIs.keep {o o' : Tr AObj} {nx nx' i m qw : Nat} {a a' : Option Nat} {W : Want} {b7 : Option Nat} {ord : List Int} (h : SideIs o nx i m a qw W b7 ord) (hn : nx ≤ nx') (hk : ∀ b, b < nx → ¬ Mine i m a b → (b = qw ∨ b7 = some b) → o'.get b = o.get b) (hm : ∀ b, b < nx → ¬ Mine i m a b → ¬ Mine i m a' b) : SideIs o' nx' i m a' qw W b7 ord := by
  obtain ⟨es, c, h1, h2⟩ := h.want
  refine ⟨h.q2, Nat.lt_of_lt_of_le h.qn hn, hm _ h.qn h.qm, ⟨es, c, (hk _ h.qn h.qm (.inl rfl)).trans h1, h2⟩, ?_⟩
  rcases h.list with h3 | ⟨b, rfl, h3, h4, h5, h6, h7, h8⟩
  · exact .inl h3
  · exact .inr ⟨b, rfl, h3, h4, Nat.lt_of_lt_of_le h5 hn, h6, hm _ h5 h7, (hk _ h5 h7 (.inr rfl)).trans h8⟩
/-- the law's variables and memory: the table l, and W, ord beside it -/
structure MapM (og : Tr AObj) (ak av : Option Addr) (lk lv i : Nat) (l : List (VV × VV)) (ord : List Int) (W : Want) (idx : Nat) (e : Tr Value) (o : Tr AObj) (nx m : Nat) (a : Option Nat) (qw : Nat) (b7 : Option Nat) : Prop where
  g0 : e.get 0 = some (.slice ak lk 0)
  g1 : e.get 1 = some (.slice av lv 0)
  g5 : e.get 5 = some (.pointer (some ⟨i, 0, none⟩))
  g6 : e.get 6 = some (.map (some qw))
  g7 : e.get 7 = some (ordV b7 ord)
  g8 : e.get 8 = some (.int .i64 (.ofNat idx))
  lo : 2 ≤ nx
  tab : TabIn o nx i m a l
  mine : ∀ b, Mine i m a b → 2 ≤ b
  hold : ∀ b, b < 2 → o.get b = og.get b
  side : SideIs o nx i m a qw W b7 ord
section
variable {og : Tr AObj} {ak av : Option Addr} {lk lv i : Nat} {l : List (VV × VV)} {ord : List Int} {W : Want} {idx : Nat} {e e' : Tr Value} {o o' : Tr AObj} {nx nx' m : Nat} {a : Option Nat} {qw : Nat} {b7 : Option Nat}
theorem MapM.more (M : MapM og ak av lk lv i l ord W idx e o nx m a qw b7) (hn : nx ≤ nx') (hk : ∀ b, b < nx → o'.get b = o.get b) (h0 : e'.get 0 = e.get 0) (h1 : e'.get 1 = e.get 1) (h5 : e'.get 5 = e.get 5) (h6 : e'.get 6 = e.get 6) (h7 : e'.get 7 = e.get 7) (h8 : e'.get 8 = e.get 8) :
    MapM og ak av lk lv i l ord W idx e' o' nx' m a qw b7 :=
  ⟨h0.trans M.g0, h1.trans M.g1, h5.trans M.g5, h6.trans M.g6, h7.trans M.g7, h8.trans M.g8, Nat.le_trans M.lo hn, M.tab.more hn hk, M.mine, fun b hb => (hk b (Nat.lt_of_lt_of_le hb M.lo)).trans (M.hold b hb), M.side.keep hn (fun b hb _ _ => hk b hb) fun _ _ h => h⟩
/-- a block beside all of these is written -/
theorem MapM.besides (M : MapM og ak av lk lv i l ord W idx e o nx m a qw b7) {q : Nat} (h1 : ¬ Mine i m a q) (h2 : q ≠ qw) (h3 : b7 ≠ some q) (h4 : 2 ≤ q) (hn : nx ≤ nx') (hk : ∀ b, b < nx → b ≠ q → o'.get b = o.get b) (g0 : e'.get 0 = e.get 0) (g1 : e'.get 1 = e.get 1) (g5 : e'.get 5 = e.get 5) (g6 : e'.get 6 = e.get 6) (g7 : e'.get 7 = e.get 7) (g8 : e'.get 8 = e.get 8) :
    MapM og ak av lk lv i l ord W idx e' o' nx' m a qw b7 :=
  ⟨g0.trans M.g0, g1.trans M.g1, g5.trans M.g5, g6.trans M.g6, g7.trans M.g7, g8.trans M.g8, Nat.le_trans M.lo hn, M.tab.keep hn (fun b hb => hk b (M.tab.mine_lt hb) fun e => h1 (e ▸ hb)), M.mine,
    fun b hb => (hk b (Nat.lt_of_lt_of_le hb M.lo) (by omega)).trans (M.hold b hb), M.side.keep hn (fun b hb _ h => hk b hb fun e => h.elim (fun h => h2 (e ▸ h)) fun h => h3 (by rw [h, e])) fun _ _ h => h⟩
/-- the map has another content -/
theorem MapM.want {W' : Want} (M : MapM og ak av lk lv i l ord W idx e o nx m a qw b7) (hn : nx ≤ nx') (hq : ∃ es c, o'.get qw = some (.map es c) ∧ WantIs es W') (hk : ∀ b, b < nx → b ≠ qw → o'.get b = o.get b) (g0 : e'.get 0 = e.get 0) (g1 : e'.get 1 = e.get 1) (g5 : e'.get 5 = e.get 5) (g6 : e'.get 6 = e.get 6) (g7 : e'.get 7 = e.get 7) (g8 : e'.get 8 = e.get 8) :
    MapM og ak av lk lv i l ord W' idx e' o' nx' m a qw b7 := by
  have S := M.side
  refine ⟨g0.trans M.g0, g1.trans M.g1, g5.trans M.g5, g6.trans M.g6, g7.trans M.g7, g8.trans M.g8, Nat.le_trans M.lo hn, M.tab.keep hn (fun b hb => hk b (M.tab.mine_lt hb) fun e => S.qm (e ▸ hb)), M.mine,
    fun b hb => (hk b (Nat.lt_of_lt_of_le hb M.lo) (by have := S.q2; omega)).trans (M.hold b hb), S.q2, Nat.lt_of_lt_of_le S.qn hn, S.qm, hq, ?_⟩
  rcases S.list with h3 | ⟨b, rfl, h3, h4, h5, h6, h7, h8⟩
  · exact .inl h3
  · exact .inr ⟨b, rfl, h3, h4, Nat.lt_of_lt_of_le h5 hn, h6, h7, (hk _ h5 h6).trans h8⟩
end
theorem vOf_may (n : Int) : vOf n = (0, 0) ∨ (vOf n).1 = 3 := by
  unfold vOf
  by_cases h : n = 0
  · left; rw [if_pos h]
  · right; rw [if_neg h]
/-- all of it -/
def MapK (og : Tr AObj) (ak av : Option Addr) (lk lv i : Nat) (l : List (VV × VV)) (ord : List Int) (W : Want) (idx : Nat) (e : Tr Value) (H : AHeap) : Prop := ∃ o nx lg m a qw b7, H = ⟨o, nx, lg⟩ ∧ MapM og ak av lk lv i l ord W idx e o nx m a qw b7
/-- what holds of the account at all times -/
structure AccOk (ord : List Int) (W : Want) : Prop where
  nodup : ord.Nodup
  dom : ∀ x, (W x).isSome = decide (x ∈ ord)
  rng : ∀ x ∈ ord, 0 ≤ x ∧ x < 20
theorem AccOk.next {ord : List Int} {W : Want} (h : AccOk ord W) {k : Int} (hk : 0 ≤ k ∧ k < 20) (n : Int) : AccOk (ordN ord W k n) (wantN ord W k n) := by
  refine ⟨ordN_nodup h.nodup k n, wantN_dom h.dom k n, fun x hx => ?_⟩
  unfold ordN at hx
  split at hx
  · exact h.rng x hx
  · split at hx
    · exact h.rng x hx
    · rcases List.mem_append.1 hx with hx | hx
      · exact h.rng x ((List.filter_sublist).subset hx)
      · simp at hx; rw [hx]; exact hk
/-- the number that the second slice holds for a place -/
def numAt (lv : Nat) (zv : List Int) (idx : Nat) : Int := if idx < lv then (zv.getD idx 0).tmod 3 else 0
theorem tmod3 (x : Int) : -3 < x.tmod 3 ∧ x.tmod 3 < 3 := by
  have h1 := Int.tmod_lt_of_pos x (show (0 : Int) < 3 by decide)
  have h2 := Int.tmod_lt_of_pos (-x) (show (0 : Int) < 3 by decide)
  rw [Int.neg_tmod] at h2
  omega
def seqR : Code → Code
  | .seq _ b => b
  | c => c
def bodyOf (f : Func) : Code := match f.body with
  | some c => c
  | none => .skip
/-- what comes behind the law's first loop -/
def mapTail (f : Func) : Code := seqR (seqR (seqR (seqR (seqR (seqR (bodyOf f))))))
end Go.Proofs.Ytmflapajjghpmaa
