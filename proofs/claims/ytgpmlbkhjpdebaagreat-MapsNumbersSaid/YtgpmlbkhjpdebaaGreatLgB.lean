/- slices.Backward at a code's instructions: what it hands back, for every loop body that keeps what lay. -/
import Derived.RangeFuncNested
import Derived.RangeFuncBound
import Derived.RangeFuncCalls
import Derived.RangeFuncLeaves
import Derived.RangeFuncBox
import Derived.Shelf.Abstract
import Derived.Shelf.RegionOpen
import Derived.WalkKit
import Derived.OwnWalkIn
import Derived.TacticsInMore
import Derived.LoopNIn
import Derived.LoopIn
import Derived.KernelRfl
import Derived.Test.YtgpmlbkhjpdebaaGreatProg
set_option linter.unusedSimpArgs false
set_option linter.unusedVariables false
namespace Go.Proofs.YtgpmlbkhjpdebaaGreat
open Go.RowKit Go.Shelf
attribute [local go_sem] Oper.semAt_some

/-- an instruction's five numbers -/
structure Ic where
  op : Int
  a : Int
  b : Int
  c : Int
  n : Int
def Ic.cells (x : Ic) : List Value := [.int .u8 x.op, .int .i64 x.a, .int .i64 x.b, .int .i64 x.c, .int .i64 x.n]
/-- the places of a list, from the last one on -/
def revs (n : Nat) : List (Fin n) := (List.finRange n).reverse
theorem revs_length (n : Nat) : (revs n).length = n := by simp [revs]
theorem revs_at {n k : Nat} (h : k < n) : (revs n).take (k + 1) = (revs n).take k ++ [⟨n - 1 - k, by omega⟩] := by
  have hk : k < (revs n).length := by rw [revs_length]; exact h
  rw [List.take_succ_eq_append_getElem hk]
  congr 1
  simp [revs]
/-- what a round keeps: what lay below n₀, and one box -/
def Kq (n₀ Bs : Nat) (A B : World) : Prop := Below n₀ A B ∧ ∀ o, A.heap[Bs]? = some o → B.heap[Bs]? = some o
theorem Kq.refl (n₀ Bs : Nat) (W : World) : Kq n₀ Bs W W := ⟨Below.refl _ _, fun _ h => h⟩
theorem Kq.trans {n₀ Bs : Nat} {A B C : World} (h : Kq n₀ Bs A B) (k : Kq n₀ Bs B C) : Kq n₀ Bs A C := ⟨h.1.trans k.1, fun o ho => k.2 o (h.2 o ho)⟩
theorem kq_b {n₀ Bs : Nat} {w : World} (hn : n₀ ≤ w.heap.size) (hB : Bs < w.heap.size) (W : World) (l : Nat) (o o' : Obj) (hl : w.heap.size ≤ l) (h : W.heap[l]? = some o) (h1 : o.isCells = false) (h2 : o.isWalk = false) : Kq n₀ Bs W (W.putObj l o') :=
  ⟨belowK_b hn W l o o' hl h h1 h2, fun x hx => by rw [World.putObj_heap_other (by omega)]; exact hx⟩
/-- what round j is handed -/
def encI (f : Nat → Ic) {n : Nat} (j : Fin n) : Array Value := #[.int .i64 (j.1 : Int), .agg (f j.1).cells.toArray]

set_option maxRecDepth 100000 in
set_option maxHeartbeats 2000000 in
theorem back1_in (F : Fence) (n : Nat) (h8 : F.fn 54) (hro : F.round = none) (hn : 1 ≤ n) (l Bs n₀ b off len cap : Nat) (f : Nat → Ic) (hreach : len ≤ 1000000) (hb : b < n₀) (J Kx : List (Fin len) → World → Prop)
    (hY : ∀ pre x W, J pre W → pre.length < len → YieldAt F (n - 1) Tryz.prog l (encI f x) W fun e W' =>
      (e = .returned (.bool true) ∧ J (pre ++ [x]) W' ∧ Kq n₀ Bs W W') ∨ (e = .returned (.bool false) ∧ Kx (pre ++ [x]) W'))
    (W : World) (hBs : Boxed W Bs 27 (.slice (some ⟨b, off, none⟩) len cap)) (hc : ∀ j, j < len → ∀ k v, (f j).cells[k]? = some v → W.cell? ⟨b, off + j * 5 + k, none⟩ = some v) (h0 : J [] W) :
    CallsIn F n Tryz.prog 54 #[.func (.yield l) #[] #[], .pointer (some ⟨Bs, 0, none⟩)] W fun e W' => (∃ v, e = .returned v) ∧
      ((∃ ys, ys = revs len ∧ J ys W') ∨ (∃ pre, (∃ k, k ≤ len ∧ pre = (revs len).take k) ∧ Kx pre W')) := by
  refine callsIn_of_wp Tryz.func54 rfl h8 ?_ hro
  simp only [Tryz.ntmps54, List.size_toArray, List.length_cons, List.length_nil, Nat.reduceAdd, Nat.reduceSub, Array.replicate_succ, Array.replicate_zero, List.push_toArray, List.append_toArray, List.nil_append, List.cons_append]
  have hBc := hBs.cell
  gi_wp2
  gi_loopw [3] (fun i wr => ∃ k : Nat, k ≤ len ∧ i = .int .i64 ((len : Int) - 1 - k) ∧ J ((revs len).take k) wr ∧ Kq n₀ Bs W wr)
    (fun i _ => (intOf i + 1).toNat)
  case atStart => exact ⟨0, Nat.zero_le _, by simp, by simpa using h0, Kq.refl _ _ _⟩
  case round =>
    obtain ⟨k, hk, rfl, hJs, hnx⟩ := hrel
    by_cases hlt : k < len
    · obtain ⟨fn, tmps, assign, body, hy, hR⟩ := hY _ (⟨len - 1 - k, by omega⟩ : Fin len) wr hJs (by rw [List.length_take, revs_length]; omega)
      dsimp only [encI] at hy
      have hBs1 : Boxed wr Bs 27 (.slice (some ⟨b, off, none⟩) len cap) := hnx.2 _ hBs
      have hBs' := hBs1.cell
      have hk2 : ((len - 1 - k : Nat) : Int) = (len : Int) - 1 - k := by omega
      rw [hk2] at hy
      have hq : ∀ q v, (f (len - 1 - k)).cells[q]? = some v → wr.cell? ⟨b, off + (len - 1 - k) * 5 + q, none⟩ = some v := fun q v h => (hnx.1.cell (p := ⟨b, off + (len - 1 - k) * 5 + q, none⟩) hb).trans (hc (len - 1 - k) (by omega) q v h)
      have q0 : wr.cell? ⟨b, off + (len - 1 - k) * 5, none⟩ = some (.int .u8 (f (len - 1 - k)).op) := hq 0 _ rfl
      have q1 : wr.cell? ⟨b, off + (len - 1 - k) * 5 + 1, none⟩ = some (.int .i64 (f (len - 1 - k)).a) := hq 1 _ rfl
      have q2 : wr.cell? ⟨b, off + (len - 1 - k) * 5 + 2, none⟩ = some (.int .i64 (f (len - 1 - k)).b) := hq 2 _ rfl
      have q3 : wr.cell? ⟨b, off + (len - 1 - k) * 5 + 3, none⟩ = some (.int .i64 (f (len - 1 - k)).c) := hq 3 _ rfl
      have q4 : wr.cell? ⟨b, off + (len - 1 - k) * 5 + 4, none⟩ = some (.int .i64 (f (len - 1 - k)).n) := hq 4 _ rfl
      have hre : ((len - 1 - k) * 5 * 8 : Nat) ≤ 140737488351232 := by omega
      dsimp only [Ic.cells] at hy
      clear hq hc
      gi_wp2
      refine hR.mono ?_
      rintro e W3 (⟨rfl, hJ3, hk3⟩ | ⟨rfl, hJx3⟩)
      · have hBs3 := (show Boxed W3 Bs 27 (.slice (some ⟨b, off, none⟩) len cap) from hk3.2 _ hBs1).cell
        gi_wp2
        go_roundw
        case rel => exact ⟨k + 1, by omega, by simp; omega, by rw [revs_at hlt]; exact hJ3, hnx.trans hk3⟩
        case measure => simp [intOf]; omega
      · gi_wp2
        refine bodyPost_ret (results_none rfl _ _ _) rfl ?_
        exact ⟨⟨_, rfl⟩, .inr ⟨_, ⟨k + 1, by omega, rfl⟩, by rw [revs_at hlt]; exact hJx3⟩⟩
    · obtain rfl : k = len := by omega
      gi_wp2
      go_end0
      rw [List.take_of_length_le (by rw [revs_length]; exact Nat.le_refl _)] at hJs
      exact ⟨⟨_, rfl⟩, .inl ⟨_, rfl, hJs⟩⟩
set_option maxRecDepth 100000 in
set_option maxHeartbeats 1000000 in
theorem back0_in (F : Fence) (n : Nat) (h8 : F.fn 54) (hro : F.round = none) (l Bs : Nat) (J : List (Fin 0) → World → Prop) (W : World) (hBs : W.cell? ⟨Bs, 0, none⟩ = some (.slice none 0 0)) (h0 : J [] W) :
    CallsIn F n Tryz.prog 54 #[.func (.yield l) #[] #[], .pointer (some ⟨Bs, 0, none⟩)] W fun e W' => (∃ v, e = .returned v) ∧ J [] W' := by
  refine callsIn_of_wp Tryz.func54 rfl h8 ?_ hro
  simp only [Tryz.ntmps54, List.size_toArray, List.length_cons, List.length_nil, Nat.reduceAdd, Nat.reduceSub, Array.replicate_succ, Array.replicate_zero, List.push_toArray, List.append_toArray, List.nil_append, List.cons_append]
  gi_wp2
  gi_loopw [3] (fun i wr => i = .int .i64 (-1) ∧ J [] wr) (fun _ _ => 0)
  case atStart => exact ⟨rfl, h0⟩
  case round =>
    obtain ⟨rfl, hJs⟩ := hrel
    gi_wp2
    go_end0
    exact ⟨⟨_, rfl⟩, hJs⟩
set_option maxHeartbeats 1000000 in
theorem backward_in (F : Fence) (n : Nat) (h6 : F.fn 28) (hro : F.round = none) (a : Option Addr) (len cap : Nat) (w : World) :
    CallsIn F n Tryz.prog 28 #[.slice a len cap] w fun e w' => e = .returned (.func (.func 54) #[] #[.pointer (some ⟨w.heap.size, 0, none⟩)]) ∧ w' = w.alloc (.cells #[.slice a len cap] 27) := by
  refine callsIn_of_wp Tryz.func28 rfl h6 ?_ hro
  simp only [Tryz.ntmps28, List.size_toArray, List.length_cons, List.length_nil, Nat.reduceAdd, Nat.reduceSub, Array.replicate_succ, Array.replicate_zero, List.push_toArray, List.append_toArray, List.nil_append, List.cons_append]
  gi_wp2
  go_ret
  exact ⟨rfl, rfl⟩
/-- a list of instructions that lies in memory below n₀ -/
def InsAt (n₀ : Nat) (W : World) (sv : Value) (f : Nat → Ic) (len : Nat) : Prop :=
  (sv = .slice none 0 0 ∧ len = 0) ∨ ∃ b off cap, sv = .slice (some ⟨b, off, none⟩) len cap ∧ b < n₀ ∧ ∀ j, j < len → ∀ k v, (f j).cells[k]? = some v → W.cell? ⟨b, off + j * 5 + k, none⟩ = some v
theorem InsAt.below {n₀ : Nat} {A B : World} (h : Below n₀ A B) {sv : Value} {f : Nat → Ic} {len : Nat} : InsAt n₀ A sv f len → InsAt n₀ B sv f len
  | .inl h0 => .inl h0
  | .inr ⟨b, off, cap, h1, h2, h3⟩ => .inr ⟨b, off, cap, h1, h2, fun j hj k v hv => (h.cell (p := ⟨b, off + j * 5 + k, none⟩) h2).trans (h3 j hj k v hv)⟩
theorem back_stops (F : Fence) (n : Nat) (h8 : F.fn 54) (hro : F.round = none) (hn : 1 ≤ n) (Bs n₀ : Nat) (sv : Value) (f : Nat → Ic) (len : Nat) (hreach : len ≤ 1000000) (w : World) (hn₀ : n₀ ≤ w.heap.size)
    (hc : Boxed w Bs 27 sv) (hI : InsAt n₀ w sv f len) :
    SeqStopsK F n Tryz.prog 54 #[.pointer (some ⟨Bs, 0, none⟩)] (encI f (n := len)) (Kq n₀ Bs) (fun ys => ys = revs len) (fun pre => ∃ k, k ≤ len ∧ pre = (revs len).take k) len w := fun l J Kx W hW _ _ hY h0 => by
  have hc' : Boxed W Bs 27 sv := (hW.block _ hc.lt).trans hc
  rcases hI.below (hW.mono hn₀) with ⟨rfl, rfl⟩ | ⟨b, off, cap, rfl, hb, hcs⟩
  · exact (back0_in F n h8 hro l Bs J W hc'.cell h0).mono fun e W' ⟨he, hj⟩ => ⟨he, .inl ⟨_, rfl, hj⟩⟩
  · exact back1_in F n h8 hro hn l Bs n₀ b off len cap f hreach hb J Kx hY W hc' hcs h0
end Go.Proofs.YtgpmlbkhjpdebaaGreat
