/- A pool in memory, and its small calls, as walked. -/
import Derived.Test.YtmflapajjghpmaaPoolUp
import Derived.Test.YtmflapajjghpmaaPoolPlain
namespace Go.Proofs.Ytmflapajjghpmaa
open Go.RowKit

/-- the pool's own block -/
def poolCells (st : PS) (sv fv : Value) : Array Value := #[.bool true, .int .i64 st.bound, .int .i64 st.used, .int .i64 st.count, sv, fv]

structure PoolIs (w : World) (b : Nat) (st : PS) (sv fv : Value) : Prop where
  blk : w.heap[b]? = some (.cells (poolCells st sv fv) 74 (0, 0))
  own : w.ownsRow 0 3 1 sv st.sizes.length (st.sizes.map (Value.int .i64))
  ownF : w.ownsRow 0 3 1 fv st.free.length (st.free.map (Value.int .i64))
  apart : RowsApart sv fv

/-- the blocks of a pool -/
def Foot (b : Nat) (sv fv : Value) (k : Nat) : Prop := k = b ∨ sv.ownBlock = some k ∨ fv.ownBlock = some k

theorem PoolIs.later {w w' : World} {b : Nat} {st : PS} {sv fv : Value} (h : PoolIs w b st sv fv) {S : Nat → Prop} (ht : Touch S w w') (hS : ∀ k, Foot b sv fv k → ¬ S k) : PoolIs w' b st sv fv :=
  ⟨ht.obj h.blk (hS b (.inl rfl)), ht.row h.own (fun g hg => hS g (.inr (.inl hg))), ht.row h.ownF (fun g hg => hS g (.inr (.inr hg))), h.apart⟩
theorem PoolIs.same {w w' : World} {b : Nat} {st : PS} {sv fv : Value} (h : PoolIs w b st sv fv) (ht : Touch (fun _ => False) w w') : PoolIs w' b st sv fv := h.later ht (fun _ _ h => h)
theorem PoolIs.lt {w : World} {b : Nat} {st : PS} {sv fv : Value} (h : PoolIs w b st sv fv) : ∀ k, Foot b sv fv k → k < w.heap.size := by
  rintro k (rfl | hk | hk)
  · exact (Array.getElem?_eq_some_iff.1 h.blk).1
  · exact (h.own.lt k hk).2
  · exact (h.ownF.lt k hk).2
theorem pool_cell {w : World} {b : Nat} {st : PS} {sv fv : Value} (h : PoolIs w b st sv fv) :
    w.cell? ⟨b, 0, none⟩ = some (.bool true) ∧ w.cell? ⟨b, 1, none⟩ = some (.int .i64 st.bound) ∧ w.cell? ⟨b, 2, none⟩ = some (.int .i64 st.used) ∧ w.cell? ⟨b, 3, none⟩ = some (.int .i64 st.count) ∧ w.cell? ⟨b, 4, none⟩ = some sv ∧ w.cell? ⟨b, 5, none⟩ = some fv :=
  ⟨known_cell h.blk 0, known_cell h.blk 1, known_cell h.blk 2, known_cell h.blk 3, known_cell h.blk 4, known_cell h.blk 5⟩

set_option maxHeartbeats 1000000 in
theorem new_bad (n : Int) (w : World) (h : n < 0 ∨ 1073741824 < n) : Calls Try.prog 16 #[.int .i64 n] w fun e w' => e = .returned (.tuple #[.pointer none, .int .i64 2]) ∧ w = w' := by
  rcases h with h | h
  · go_enter Try.func16, Try.ntmps16
    go_wp2
    go_ret2
    exact ⟨rfl, rfl⟩
  · have h0 : ¬ n < 0 := by omega
    go_enter Try.func16, Try.ntmps16
    go_wp2
    go_ret2
    exact ⟨rfl, rfl⟩
set_option maxHeartbeats 1000000 in
theorem new_any (n : Int) (w : World) (h0 : 0 ≤ n) (h1 : n ≤ 1073741824) : Calls Try.prog 16 #[.int .i64 n] w fun e w' =>
    e = .returned (.tuple #[.pointer (some ⟨w.heap.size, 0, none⟩), .int .i64 0]) ∧ w' = w.alloc (.cells (poolCells ⟨n, 0, 0, [], []⟩ (.slice none 0 0) (.slice none 0 0)) 74) := by
  go_enter Try.func16, Try.ntmps16
  go_wp2
  go_ret2
  exact ⟨rfl, rfl⟩

set_option maxHeartbeats 1000000 in
theorem none_nil (w : World) : Calls Try.prog 81 #[.pointer none] w fun e w' => e = .returned (.bool true) ∧ w = w' := by
  go_enter Try.func81, Try.ntmps81
  go_wp2
  go_ret
  exact ⟨rfl, rfl⟩
set_option maxHeartbeats 1000000 in
theorem none_made (b : Nat) (m : Bool) (w : World) (h : w.cell? ⟨b, 0, none⟩ = some (.bool m)) : Calls Try.prog 81 #[.pointer (some ⟨b, 0, none⟩)] w fun e w' => e = .returned (.bool !m) ∧ w = w' := by
  go_enter Try.func81, Try.ntmps81
  go_wp2
  go_ret
  exact ⟨rfl, rfl⟩

theorem row_some {w : World} {base E n : Nat} {v : Value} {xs : List Value} (h : w.ownsRow base E 1 v n xs) (hn : 0 < n) : ∃ g cap, v = .slice (some ⟨g, 0, none⟩) n cap := by
  obtain ⟨g, cap, hv, _⟩ := owns_at h hn
  exact ⟨g, cap, hv⟩

set_option maxRecDepth 100000 in
set_option maxHeartbeats 2000000 in
theorem has_any (b : Nat) (st : PS) (sv fv : Value) (id : Int) (w : World) (h : PoolIs w b st sv fv) (hl : st.sizes.length ≤ 65536) : Calls Try.prog 82 #[.pointer (some ⟨b, 0, none⟩), .int .i64 id] w fun e w' => e = .returned (.bool (hasP st id)) ∧ w = w' := by
  obtain ⟨_, _, _, _, c4, _⟩ := pool_cell h
  have hown := h.own
  have hb := row_ne h.own h.blk (by decide)
  clear h
  unfold hasP
  by_cases h1 : 1 ≤ id
  · have d1 : decide ((1 : Int) ≤ id) = true := decide_eq_true h1
    obtain ⟨ao, n, cap, hv, hn⟩ : ∃ ao n cap, sv = .slice ao n cap ∧ n = st.sizes.length := by
      rcases hown.2 with ⟨rfl, h0⟩ | ⟨g, cap, _, rfl, _⟩
      · exact ⟨none, 0, 0, rfl, h0.symm⟩
      · exact ⟨_, _, cap, rfl, rfl⟩
    by_cases h2 : id ≤ st.sizes.length
    · have d2 : decide (id ≤ (st.sizes.length : Int)) = true := decide_eq_true h2
      obtain ⟨g, cap, rfl⟩ := row_some hown (by omega)
      obtain ⟨j, hj⟩ : ∃ j, (id - 1).toNat = j := ⟨_, rfl⟩
      have hjl : j < st.sizes.length := by omega
      obtain ⟨x, hx⟩ : ∃ x, st.sizes.getD j 0 = x := ⟨_, rfl⟩
      have cj := owns_cell hown j x (by rw [← hx]; exact getD_some _ _ hjl)
      rw [hj, hx, d1, d2]
      obtain ⟨m, hm⟩ : ∃ m, st.sizes.length = m := ⟨_, rfl⟩
      rw [hm] at c4 hjl hl
      have hid : id = (j : Int) + 1 := by omega
      subst hid
      have jm : (j : Int) + 1 ≤ (m : Int) := by omega
      have jj : (j : Int) + 1 - 1 = (j : Int) := by omega
      have jl : (j : Int) < (m : Int) := by omega
      clear hown hv hn hx hj hm d2 h2
      simp only [Bool.true_and]
      cases hd : decide (0 ≤ x)
      all_goals
        go_enter Try.func82, Try.ntmps82
        go_wp2
        go_ret
        exact ⟨rfl, rfl⟩
    · have d2 : decide (id ≤ (st.sizes.length : Int)) = false := decide_eq_false h2
      rw [d1, d2]
      subst hv hn
      simp only [Bool.and_false, Bool.false_and]
      clear hown hb d1
      go_enter Try.func82, Try.ntmps82
      go_wp2
      go_ret
      exact ⟨rfl, rfl⟩
  · have d1 : decide ((1 : Int) ≤ id) = false := decide_eq_false h1
    rw [d1]
    simp only [Bool.false_and]
    go_enter Try.func82, Try.ntmps82
    go_wp2
    go_ret
    exact ⟨rfl, rfl⟩

set_option maxHeartbeats 1000000 in
theorem used_any (b : Nat) (st : PS) (sv fv : Value) (w : World) (h : PoolIs w b st sv fv) : Calls Try.prog 20 #[.pointer (some ⟨b, 0, none⟩)] w fun e w' => e = .returned (.int .i64 st.used) ∧ w = w' := by
  obtain ⟨c0, _, c2, _, _, _⟩ := pool_cell h
  clear h
  go_enter Try.func20, Try.ntmps20
  go_wp2_with (go_at_call 81; refine (none_made b true _ c0).mono ?_; rintro e w' ⟨rfl, rfl⟩)
  go_ret
  exact ⟨rfl, rfl⟩
set_option maxHeartbeats 1000000 in
theorem count_any (b : Nat) (st : PS) (sv fv : Value) (w : World) (h : PoolIs w b st sv fv) : Calls Try.prog 33 #[.pointer (some ⟨b, 0, none⟩)] w fun e w' => e = .returned (.int .i64 st.count) ∧ w = w' := by
  obtain ⟨c0, _, _, c3, _, _⟩ := pool_cell h
  clear h
  go_enter Try.func33, Try.ntmps33
  go_wp2_with (go_at_call 81; refine (none_made b true _ c0).mono ?_; rintro e w' ⟨rfl, rfl⟩)
  go_ret
  exact ⟨rfl, rfl⟩
end Go.Proofs.Ytmflapajjghpmaa
