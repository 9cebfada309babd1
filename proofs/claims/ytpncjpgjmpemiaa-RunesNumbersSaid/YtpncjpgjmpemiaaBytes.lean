/- The bytes' classes of package runes and of its reference, as walked: each call answers a plain function of its byte and leaves the world alone. -/
import Derived.Test.YtpncjpgjmpemiaaProg
import Derived.WalkKit
import Derived.Lib.Hide
import Derived.Deep.QuietTactic
import Derived.BigQuiet
namespace Go.Proofs.Ytpncjpgjmpemiaa
open Go.RowKit

def inB (lo b hi : Int) : Bool := decide (lo ≤ b) && decide (b ≤ hi)

set_option maxHeartbeats 400000 in
theorem within_any (lo b hi : Int) (w : World) : Calls Try.prog 24 #[.int .u8 lo, .int .u8 b, .int .u8 hi] w fun e w' => e = .returned (.bool (inB lo b hi)) ∧ w = w' := by
  by_cases h1 : lo ≤ b
  · by_cases h2 : b ≤ hi
    · have e : inB lo b hi = true := by simp [inB, h1, h2]
      rw [e]; clear e
      go_enter Try.func24, Try.ntmps24
      go_wp2
      go_ret
      exact ⟨rfl, rfl⟩
    · have e : inB lo b hi = false := by simp [inB, h1, h2]
      rw [e]; clear e
      go_enter Try.func24, Try.ntmps24
      go_wp2
      go_ret
      exact ⟨rfl, rfl⟩
  · have e : inB lo b hi = false := by simp [inB, h1]
    rw [e]; clear e
    go_enter Try.func24, Try.ntmps24
    go_wp2
    go_ret
    exact ⟨rfl, rfl⟩

set_option maxHeartbeats 400000 in
theorem digit_any (b : Int) (w : World) : Calls Try.prog 19 #[.int .u8 b] w fun e w' => e = .returned (.bool (inB 48 b 57)) ∧ w = w' := by
  go_enter Try.func19, Try.ntmps19
  go_wp2_with (go_at_call 24; refine (within_any _ _ _ _).mono ?_; rintro e w' ⟨rfl, rfl⟩)
  go_ret
  exact ⟨rfl, rfl⟩

def spaceB (b : Int) : Bool := b == 32 || inB 9 b 13
set_option maxHeartbeats 400000 in
theorem space_any (b : Int) (w : World) : Calls Try.prog 21 #[.int .u8 b] w fun e w' => e = .returned (.bool (spaceB b)) ∧ w = w' := by
  by_cases h : b = 32
  · subst h
    go_enter Try.func21, Try.ntmps21
    go_wp2_with (go_at_call 24; refine (within_any _ _ _ _).mono ?_; rintro e w' ⟨rfl, rfl⟩)
    go_ret
    exact ⟨rfl, rfl⟩
  · have h1 : (b == 32) = false := beq_eq_false_iff_ne.2 h
    have e : spaceB b = inB 9 b 13 := by simp [spaceB, h1]
    rw [e]; clear e
    go_enter Try.func21, Try.ntmps21
    go_wp2_with (go_at_call 24; refine (within_any _ _ _ _).mono ?_; rintro e w' ⟨rfl, rfl⟩)
    go_ret
    exact ⟨rfl, rfl⟩

def hexB (b : Int) : Int × Bool := if inB 48 b 57 then (b - 48, true) else if inB 97 b 102 then (b - 87, true) else if inB 65 b 70 then (b - 55, true) else (0, false)
theorem inB_true {lo b hi : Int} (h : inB lo b hi = true) : lo ≤ b ∧ b ≤ hi := by simpa [inB] using h
set_option maxHeartbeats 400000 in
theorem hex_any (b : Int) (w : World) : Calls Try.prog 15 #[.int .u8 b] w fun e w' => e = .returned (.tuple #[.int .i64 (hexB b).1, .bool (hexB b).2]) ∧ w = w' := by
  unfold hexB
  cases h1 : inB 48 b 57
  · cases h2 : inB 97 b 102
    · cases h3 : inB 65 b 70
      · go_enter Try.func15, Try.ntmps15
        go_wp2_with (first | (go_at_call 19; refine (digit_any _ _).mono ?_; rintro e w' ⟨rfl, rfl⟩) | (go_at_call 24; refine (within_any _ _ _ _).mono ?_; rintro e w' ⟨rfl, rfl⟩))
        go_ret2
        exact ⟨rfl, rfl⟩
      · have h3' := inB_true h3
        go_enter Try.func15, Try.ntmps15
        go_wp2_with (first | (go_at_call 19; refine (digit_any _ _).mono ?_; rintro e w' ⟨rfl, rfl⟩) | (go_at_call 24; refine (within_any _ _ _ _).mono ?_; rintro e w' ⟨rfl, rfl⟩))
        go_ret2
        refine ⟨?_, rfl⟩
        simp; omega
    · have h2' := inB_true h2
      go_enter Try.func15, Try.ntmps15
      go_wp2_with (first | (go_at_call 19; refine (digit_any _ _).mono ?_; rintro e w' ⟨rfl, rfl⟩) | (go_at_call 24; refine (within_any _ _ _ _).mono ?_; rintro e w' ⟨rfl, rfl⟩))
      go_ret2
      refine ⟨?_, rfl⟩
      simp; omega
  · have h1' := inB_true h1
    go_enter Try.func15, Try.ntmps15
    go_wp2_with (first | (go_at_call 19; refine (digit_any _ _).mono ?_; rintro e w' ⟨rfl, rfl⟩) | (go_at_call 24; refine (within_any _ _ _ _).mono ?_; rintro e w' ⟨rfl, rfl⟩))
    go_ret2
    exact ⟨rfl, rfl⟩

def letterB (b : Int) : Bool := inB 97 b 122 || inB 65 b 90 || b == 95
set_option maxHeartbeats 400000 in
theorem letter_any (b : Int) (w : World) : Calls Try.prog 17 #[.int .u8 b] w fun e w' => e = .returned (.bool (letterB b)) ∧ w = w' := by
  unfold letterB
  cases h1 : inB 97 b 122
  · cases h2 : inB 65 b 90
    · cases h3 : b == 95
      all_goals
        go_enter Try.func17, Try.ntmps17
        go_wp2_with (go_at_call 24; refine (within_any _ _ _ _).mono ?_; rintro e w' ⟨rfl, rfl⟩)
        go_ret
        exact ⟨rfl, rfl⟩
    · go_enter Try.func17, Try.ntmps17
      go_wp2_with (go_at_call 24; refine (within_any _ _ _ _).mono ?_; rintro e w' ⟨rfl, rfl⟩)
      go_ret
      exact ⟨rfl, rfl⟩
  · go_enter Try.func17, Try.ntmps17
    go_wp2_with (go_at_call 24; refine (within_any _ _ _ _).mono ?_; rintro e w' ⟨rfl, rfl⟩)
    go_ret
    exact ⟨rfl, rfl⟩
end Go.Proofs.Ytpncjpgjmpemiaa
