/- The chapter's examples, as walked. -/
import Derived.Test.YtmflapajjghpmaaPoolOk
import Derived.Test.YtmflapajjghpmaaSame
namespace Go.Proofs.Ytmflapajjghpmaa
open Go.RowKit

theorem give_to {B b : Nat} {w0 w : World} {st st' : PS} (h : PoolOk B w0 w b st) (id x : Int) (hr : giveP st id = (st', x)) :
    Calls Try.prog 17 #[.pointer (some ⟨b, 0, none⟩), .int .i64 id] w fun e w' => e = .returned (.int .i64 x) ∧ PoolOk B w0 w' b st' := by
  have := give_ok h id
  rw [hr] at this
  exact this
theorem resize_to {B b : Nat} {w0 w : World} {st st' : PS} (h : PoolOk B w0 w b st) (id size x : Int) (hr : resizeP st id size = (st', x)) :
    Calls Try.prog 18 #[.pointer (some ⟨b, 0, none⟩), .int .i64 id, .int .i64 size] w fun e w' => e = .returned (.int .i64 x) ∧ PoolOk B w0 w' b st' := by
  have := resize_ok h id size
  rw [hr] at this
  exact this
theorem take_to {B b : Nat} {w0 w : World} {st st' : PS} (h : PoolOk B w0 w b st) (size n x : Int) (hr : takeP st size = (st', n, x)) :
    Calls Try.prog 19 #[.pointer (some ⟨b, 0, none⟩), .int .i64 size] w fun e w' => e = .returned (.tuple #[.int .i64 n, .int .i64 x]) ∧ PoolOk B w0 w' b st' := by
  have := take_ok h size
  rw [hr] at this
  exact this

set_option maxRecDepth 100000 in
set_option maxHeartbeats 8000000 in
theorem awake_any (w : World) : Calls Try.prog 21 #[] w fun e w' => e = .returned (.bool true) ∧ Below w.heap.size w w' := by
  go_enter Try.func21, Try.ntmps21
  go_wp2_with (go_at_call 16; refine (new_ok 10 w (by decide) (by decide)).mono ?_; rintro e w' ⟨rfl, h0⟩)
  go_wp2_with (first
    | (go_at_call 31; refine (take1_ok h0 3 1 (st' := ⟨10, 3, 1, [3], []⟩) (by rfl)).mono ?_; rintro e w' ⟨rfl, h1⟩; clear h0)
    | (go_at_call 31; refine (take1_ok h1 4 2 (st' := ⟨10, 7, 2, [3, 4], []⟩) (by rfl)).mono ?_; rintro e w' ⟨rfl, h2⟩; clear h1)
    | (go_at_call 19; refine (take_to h2 4 0 5 (st' := ⟨10, 7, 2, [3, 4], []⟩) (by rfl)).mono ?_; rintro e w' ⟨rfl, h3⟩; clear h2)
    | (go_at_call 31; refine (take1_ok h3 3 3 (st' := ⟨10, 10, 3, [3, 4, 3], []⟩) (by rfl)).mono ?_; rintro e w' ⟨rfl, h4⟩; clear h3)
    | (go_at_call 20; refine (used_ok h4).mono ?_; rintro e w' ⟨rfl, rfl⟩)
    | (go_at_call 17; refine (give_to h4 1 0 (st' := ⟨10, 7, 2, [-1, 4, 3], [1]⟩) (by rfl)).mono ?_; rintro e w' ⟨rfl, h5⟩; clear h4)
    | (go_at_call 17; refine (give_to h5 3 0 (st' := ⟨10, 4, 1, [-1, 4, -1], [1, 3]⟩) (by rfl)).mono ?_; rintro e w' ⟨rfl, h6⟩; clear h5)
    | (go_at_call 31; refine (take1_ok h6 0 1 (st' := ⟨10, 4, 2, [0, 4, -1], [3]⟩) (by rfl)).mono ?_; rintro e w' ⟨rfl, h7⟩; clear h6)
    | (go_at_call 31; refine (take1_ok h7 0 3 (st' := ⟨10, 4, 3, [0, 4, 0], []⟩) (by rfl)).mono ?_; rintro e w' ⟨rfl, h8⟩; clear h7)
    | (go_at_call 31; refine (take1_ok h8 0 4 (st' := ⟨10, 4, 4, [0, 4, 0, 0], []⟩) (by rfl)).mono ?_; rintro e w' ⟨rfl, h9⟩; clear h8)
    | (go_at_call 43; refine (ids_ok h9).mono ?_; rintro e w' ⟨v, rfl, hrd, h10⟩; clear h9))
  have hr2 := owns_reads (xs := [1, 2, 3, 4]) (owns_block w' ([1, 2, 3, 4].map (Value.int .i64)) 3 4 rfl (by decide) 0 (Nat.zero_le _)) (by decide)
  have hal : Below w'.heap.size w' (w'.alloc (.cells #[.int .i64 1, .int .i64 2, .int .i64 3, .int .i64 4] 3)) := (Below.refl _ _).alloc (Nat.le_refl _) _
  have h11 := h10.later hal
  have hrd2 := hrd.later hal (Nat.le_refl _)
  refine (sameInts_any _ _ _ _ _ hrd2 hr2).mono ?_
  rintro e w2 ⟨rfl, hb2⟩
  have h12 := h11.later hb2
  rw [show decide (idsP ⟨10, 4, 4, [0, 4, 0, 0], []⟩ = [1, 2, 3, 4]) = true from by rfl]
  clear hr2 hal h11 hrd2 hrd h10 hb2
  go_wp2_with (first
    | (go_at_call 18; refine (resize_to h12 2 11 5 (st' := ⟨10, 4, 4, [0, 4, 0, 0], []⟩) (by rfl)).mono ?_; rintro e w' ⟨rfl, h13⟩; clear h12)
    | (go_at_call 18; refine (resize_to h13 2 10 0 (st' := ⟨10, 10, 4, [0, 10, 0, 0], []⟩) (by rfl)).mono ?_; rintro e w' ⟨rfl, h14⟩; clear h13)
    | (go_at_call 20; refine (used_ok h14).mono ?_; rintro e w' ⟨rfl, rfl⟩))
  go_ret
  exact ⟨rfl, h14.below⟩
end Go.Proofs.Ytmflapajjghpmaa
