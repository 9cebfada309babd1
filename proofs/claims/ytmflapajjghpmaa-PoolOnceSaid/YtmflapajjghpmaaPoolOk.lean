/- A pool of the call's own: every step keeps it. -/
import Derived.Test.YtmflapajjghpmaaPoolAll
import Derived.Test.YtmflapajjghpmaaPoolIds
namespace Go.Proofs.Ytmflapajjghpmaa
open Go.RowKit

/-- a good pool at b, all of whose blocks lie from B on; below B all is as in w0 -/
structure PoolOk (B : Nat) (w0 w : World) (b : Nat) (st : PS) : Prop where
  ex : ∃ sv fv, PoolIs w b st sv fv ∧ ∀ k, Foot b sv fv k → B ≤ k
  good : Good st
  below : Below B w0 w
  size : B ≤ w.heap.size

theorem PoolOk.blk {B b : Nat} {w0 w : World} {st : PS} (h : PoolOk B w0 w b st) : B ≤ b ∧ b < w.heap.size := by
  obtain ⟨sv, fv, h1, h2⟩ := h.ex
  exact ⟨h2 b (.inl rfl), h1.lt b (.inl rfl)⟩
theorem PoolOk.made {B b : Nat} {w0 w : World} {st : PS} (h : PoolOk B w0 w b st) : w.cell? ⟨b, 0, none⟩ = some (.bool true) := by
  obtain ⟨sv, fv, h1, _⟩ := h.ex
  exact (pool_cell h1).1
theorem PoolOk.later {B b : Nat} {w0 w w' : World} {st : PS} (h : PoolOk B w0 w b st) (hb : Below w.heap.size w w') : PoolOk B w0 w' b st := by
  obtain ⟨sv, fv, h1, h2⟩ := h.ex
  exact ⟨⟨sv, fv, h1.same ((Touch.refl _ w).below hb), h2⟩, h.good, h.below.trans (hb.mono h.size), Nat.le_trans h.size hb.size⟩
theorem PoolOk.drewN {B b : Nat} {w0 w : World} {st : PS} (h : PoolOk B w0 w b st) (q : Nat) : PoolOk B w0 (w.drewN q) b st := h.later ⟨rfl, rfl, rfl, Nat.le_refl _, fun _ _ => rfl⟩
theorem PoolOk.next {B b : Nat} {w0 w w' : World} {st st' : PS} {sv fv : Value} (h0 : PoolOk B w0 w b st) (hf : ∀ k, Foot b sv fv k → B ≤ k) (hs : PoolStep w w' b sv fv st') (hG : Good st') : PoolOk B w0 w' b st' := by
  obtain ⟨sv', fv', h1, h2, ht⟩ := hs
  refine ⟨⟨sv', fv', h1, fun k hk => ?_⟩, hG, h0.below.trans (ht.toBelow h0.size hf), Nat.le_trans h0.size ht.size⟩
  rcases h2 k hk with h | h
  · exact hf k h
  · exact Nat.le_trans h0.size h

theorem new_ok (n : Int) (w : World) (h0 : 0 ≤ n) (h1 : n ≤ 1073741824) : Calls Try.prog 16 #[.int .i64 n] w fun e w' =>
    e = .returned (.tuple #[.pointer (some ⟨w.heap.size, 0, none⟩), .int .i64 0]) ∧ PoolOk w.heap.size w w' w.heap.size ⟨n, 0, 0, [], []⟩ := by
  refine (new_any n w h0 h1).mono ?_
  rintro e w' ⟨rfl, rfl⟩
  refine ⟨rfl, ⟨.slice none 0 0, .slice none 0 0, ⟨heap_alloc_new w _, ⟨rfl, .inl ⟨rfl, rfl⟩⟩, ⟨rfl, .inl ⟨rfl, rfl⟩⟩, fun g hg => by simp [Value.ownBlock] at hg⟩, ?_⟩, good_new n h0 h1, (Below.refl _ w).alloc (Nat.le_refl _) _, by simp⟩
  rintro k (rfl | h | h)
  · exact Nat.le_refl _
  · simp [Value.ownBlock] at h
  · simp [Value.ownBlock] at h

theorem take_ok {B b : Nat} {w0 w : World} {st : PS} (h : PoolOk B w0 w b st) (size : Int) :
    Calls Try.prog 19 #[.pointer (some ⟨b, 0, none⟩), .int .i64 size] w fun e w' => e = .returned (.tuple #[.int .i64 (takeP st size).2.1, .int .i64 (takeP st size).2.2]) ∧ PoolOk B w0 w' b (takeP st size).1 := by
  obtain ⟨sv, fv, h1, h2⟩ := h.ex
  refine (take_any b st sv fv size w h1 h.good).mono ?_
  rintro e w' ⟨rfl, hs⟩
  exact ⟨rfl, h.next h2 hs (h.good.take size)⟩
theorem give_ok {B b : Nat} {w0 w : World} {st : PS} (h : PoolOk B w0 w b st) (id : Int) :
    Calls Try.prog 17 #[.pointer (some ⟨b, 0, none⟩), .int .i64 id] w fun e w' => e = .returned (.int .i64 (giveP st id).2) ∧ PoolOk B w0 w' b (giveP st id).1 := by
  obtain ⟨sv, fv, h1, h2⟩ := h.ex
  refine (give_any b st sv fv id w h1 h.good).mono ?_
  rintro e w' ⟨rfl, hs⟩
  exact ⟨rfl, h.next h2 hs (h.good.give id)⟩
theorem resize_ok {B b : Nat} {w0 w : World} {st : PS} (h : PoolOk B w0 w b st) (id size : Int) :
    Calls Try.prog 18 #[.pointer (some ⟨b, 0, none⟩), .int .i64 id, .int .i64 size] w fun e w' => e = .returned (.int .i64 (resizeP st id size).2) ∧ PoolOk B w0 w' b (resizeP st id size).1 := by
  obtain ⟨sv, fv, h1, h2⟩ := h.ex
  refine (resize_step b st sv fv id size w h1 h.good).mono ?_
  rintro e w' ⟨rfl, hs⟩
  exact ⟨rfl, h.next h2 hs (h.good.resize id size)⟩
theorem size_ok {B b : Nat} {w0 w : World} {st : PS} (h : PoolOk B w0 w b st) (id : Int) :
    Calls Try.prog 32 #[.pointer (some ⟨b, 0, none⟩), .int .i64 id] w fun e w' => e = .returned (.tuple #[.int .i64 (sizeP st id).1, .bool (sizeP st id).2]) ∧ w = w' := by
  obtain ⟨sv, fv, h1, h2⟩ := h.ex
  exact size_any b st sv fv id w h1 h.good.len
theorem used_ok {B b : Nat} {w0 w : World} {st : PS} (h : PoolOk B w0 w b st) :
    Calls Try.prog 20 #[.pointer (some ⟨b, 0, none⟩)] w fun e w' => e = .returned (.int .i64 st.used) ∧ w = w' := by
  obtain ⟨sv, fv, h1, h2⟩ := h.ex
  exact used_any b st sv fv w h1
theorem count_ok {B b : Nat} {w0 w : World} {st : PS} (h : PoolOk B w0 w b st) :
    Calls Try.prog 33 #[.pointer (some ⟨b, 0, none⟩)] w fun e w' => e = .returned (.int .i64 st.count) ∧ w = w' := by
  obtain ⟨sv, fv, h1, h2⟩ := h.ex
  exact count_any b st sv fv w h1
theorem ids_ok {B b : Nat} {w0 w : World} {st : PS} (h : PoolOk B w0 w b st) :
    Calls Try.prog 43 #[.pointer (some ⟨b, 0, none⟩)] w fun e w' => ∃ v, e = .returned v ∧ Reads .i64 w' v (idsP st) ∧ PoolOk B w0 w' b st := by
  obtain ⟨sv, fv, h1, h2⟩ := h.ex
  refine (ids_any b st sv fv w h1 h.good.len).mono ?_
  rintro e w' ⟨v, rfl, ho, hb⟩
  have := idsFrom_len st.sizes 0
  have := h.good.len
  exact ⟨v, rfl, owns_reads ho (by unfold idsP; omega), h.later hb⟩

set_option maxHeartbeats 1000000 in
/-- the chapter's helper: a new object of that number -/
theorem take1_ok {B b : Nat} {w0 w : World} {st st' : PS} (h : PoolOk B w0 w b st) (size want : Int) (hr : takeP st size = (st', want, 0)) :
    Calls Try.prog 31 #[.pointer (some ⟨b, 0, none⟩), .int .i64 size, .int .i64 want] w fun e w' => e = .returned (.bool true) ∧ PoolOk B w0 w' b st' := by
  have hc := take_ok h size
  rw [hr] at hc
  have HC := Lib.hid hc
  clear hc h hr
  go_enter Try.func31, Try.ntmps31
  go_wp2_with (go_at_call 19; refine HC.out.mono ?_; rintro e w' ⟨rfl, hok⟩)
  go_ret
  exact ⟨by go_num, hok⟩
end Go.Proofs.Ytmflapajjghpmaa
