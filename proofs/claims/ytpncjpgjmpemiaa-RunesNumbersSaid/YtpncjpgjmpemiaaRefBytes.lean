/- The bytes' classes of the reference, as walked: each call answers a plain function of its byte and leaves the world alone. -/
import Derived.Test.YtpncjpgjmpemiaaBytes
import Derived.Test.YtpncjpgjmpemiaaKit
namespace Go.Proofs.Ytpncjpgjmpemiaa
open Go.RowKit

def inS (l : List UInt8) (b : Int) : Bool := l.any fun c => (c.toNat : Int) == b

theorem inS_hit {s : ByteArray} {b : Int} {k : Nat} (h : k < s.size) (hb : ((s[k].toNat : Int) == b) = true) : true = inS s.data.toList b := by
  symm
  unfold inS
  rw [List.any_eq_true]
  exact ⟨s[k], Array.getElem_mem_toList (xs := s.data) h, hb⟩
theorem inS_miss {s : ByteArray} {b : Int} (h : ∀ j (hj : j < s.size), ((s[j].toNat : Int) == b) = false) : false = inS s.data.toList b := by
  symm
  unfold inS
  rw [List.any_eq_false]
  intro c hc
  obtain ⟨i, hi, rfl⟩ := List.getElem_of_mem hc
  have := h i (by simpa using hi)
  have e : s.data.toList[i] = s[i]'(by simpa using hi) := by simp; rfl
  rw [e, this]; simp

set_option maxHeartbeats 400000 in
theorem in_any (b : Int) (s : ByteArray) (w : World) (hs : s.size ≤ maxLen) : Calls Try.prog 25 #[.int .u8 b, .string s] w fun e w' => e = .returned (.bool (inS s.data.toList b)) ∧ w = w' := by
  unfold maxLen at hs
  go_enter Try.func25, Try.ntmps25
  go_wp2
  go_loop [5] (fun i => ∃ k : Nat, k ≤ s.size ∧ i = .int .i64 k ∧ Hid (∀ j (hj : j < s.size), j < k → ((s[j].toNat : Int) == b) = false)) (fun i => s.size - (intOf i).toNat)
  case atStart => exact ⟨0, Nat.zero_le _, rfl, fun j _ h => absurd h (Nat.not_lt_zero j)⟩
  case round =>
    obtain ⟨k, hk, rfl, H⟩ := hrel
    by_cases hlt : k < s.size
    · by_cases hb : ((s[k].toNat : Int) == b) = true
      · go_wp2
        go_ret
        exact ⟨ret_bool (inS_hit hlt hb), rfl⟩
      · have hb' : ((s[k].toNat : Int) == b) = false := by simpa using hb
        clear hb
        go_wp2
        go_round
        case rel => exact ⟨k + 1, by omega, by go_num, fun j hj hjk => if e : j = k then by subst e; exact hb' else H j hj (by omega)⟩
        case measure => simp [intOf]; omega
    · go_wp2
      go_ret
      exact ⟨ret_bool (inS_miss fun j hj => H j hj (by omega)), rfl⟩

set_option maxHeartbeats 400000 in
theorem refDigit_any (b : Int) (w : World) : Calls Try.prog 20 #[.int .u8 b] w fun e w' => e = .returned (.bool (inS [48, 49, 50, 51, 52, 53, 54, 55, 56, 57] b)) ∧ w = w' := by
  go_enter Try.func20, Try.ntmps20
  go_wp2_with (go_at_call 25; refine (in_any _ _ _ (by decide)).mono ?_; rintro e w' ⟨rfl, rfl⟩)
  go_ret
  exact ⟨rfl, rfl⟩

set_option maxHeartbeats 400000 in
theorem refSpace_any (b : Int) (w : World) : Calls Try.prog 22 #[.int .u8 b] w fun e w' => e = .returned (.bool (inS [9, 10, 11, 12, 13, 32] b)) ∧ w = w' := by
  go_enter Try.func22, Try.ntmps22
  go_wp2_with (go_at_call 25; refine (in_any _ _ _ (by decide)).mono ?_; rintro e w' ⟨rfl, rfl⟩)
  go_ret
  exact ⟨rfl, rfl⟩

/-- the reference's digits, each way -/
def hexLo (k : Nat) : Int := if k < 10 then 48 + k else 87 + k
def hexUp (k : Nat) : Int := if k < 10 then 48 + k else 55 + k

theorem hexB_of (b : Int) (k : Nat) (hk : k < 16) (h : b = hexLo k ∨ b = hexUp k) : hexB b = ((k : Int), true) := by
  unfold hexLo hexUp at h
  unfold hexB inB
  split at h
  · have hb : b = 48 + k := by omega
    rw [if_pos (by simp; omega)]
    simp; omega
  · rw [if_neg (by simp; omega)]
    by_cases h1 : b = 87 + k
    · rw [if_pos (by simp; omega)]
      simp; omega
    · rw [if_neg (by simp; omega), if_pos (by simp; omega)]
      simp; omega
theorem hexB_none (b : Int) (h : ∀ k, k < 16 → ¬ (b = hexLo k ∨ b = hexUp k)) : hexB b = (0, false) := by
  unfold hexB inB
  by_cases h1 : 48 ≤ b ∧ b ≤ 57
  · exfalso; refine h (b - 48).toNat (by omega) (.inl ?_); unfold hexLo; rw [if_pos (by omega)]; omega
  by_cases h2 : 97 ≤ b ∧ b ≤ 102
  · exfalso; refine h (b - 87).toNat (by omega) (.inl ?_); unfold hexLo; rw [if_neg (by omega)]; omega
  by_cases h3 : 65 ≤ b ∧ b ≤ 70
  · exfalso; refine h (b - 55).toNat (by omega) (.inr ?_); unfold hexUp; rw [if_neg (by omega)]; omega
  rw [if_neg (by simp; omega), if_neg (by simp; omega), if_neg (by simp; omega)]


theorem lo_at (k : Nat) (hk : k < 16) : (((({ data := #[48, 49, 50, 51, 52, 53, 54, 55, 56, 57, 97, 98, 99, 100, 101, 102] } : ByteArray)[k]'hk).toNat : Nat) : Int) = hexLo k := by
  obtain rfl | rfl | rfl | rfl | rfl | rfl | rfl | rfl | rfl | rfl | rfl | rfl | rfl | rfl | rfl | rfl : k = 0 ∨ k = 1 ∨ k = 2 ∨ k = 3 ∨ k = 4 ∨ k = 5 ∨ k = 6 ∨ k = 7 ∨ k = 8 ∨ k = 9 ∨ k = 10 ∨ k = 11 ∨ k = 12 ∨ k = 13 ∨ k = 14 ∨ k = 15 := by omega
  all_goals rfl
theorem up_at (k : Nat) (hk : k < 16) : (((({ data := #[48, 49, 50, 51, 52, 53, 54, 55, 56, 57, 65, 66, 67, 68, 69, 70] } : ByteArray)[k]'hk).toNat : Nat) : Int) = hexUp k := by
  obtain rfl | rfl | rfl | rfl | rfl | rfl | rfl | rfl | rfl | rfl | rfl | rfl | rfl | rfl | rfl | rfl : k = 0 ∨ k = 1 ∨ k = 2 ∨ k = 3 ∨ k = 4 ∨ k = 5 ∨ k = 6 ∨ k = 7 ∨ k = 8 ∨ k = 9 ∨ k = 10 ∨ k = 11 ∨ k = 12 ∨ k = 13 ∨ k = 14 ∨ k = 15 := by omega
  all_goals rfl

set_option maxHeartbeats 1000000 in
theorem refHex_any (b : Int) (w : World) : Calls Try.prog 16 #[.int .u8 b] w fun e w' => e = .returned (.tuple #[.int .i64 (hexB b).1, .bool (hexB b).2]) ∧ w = w' := by
  go_enter Try.func16, Try.ntmps16
  go_wp2
  go_loop [4] (fun i => ∃ k : Nat, k ≤ 16 ∧ i = .int .i64 k ∧ Hid (∀ j, j < k → ¬ (b = hexLo j ∨ b = hexUp j))) (fun i => 16 - (intOf i).toNat)
  case atStart => exact ⟨0, by omega, rfl, fun j h => absurd h (Nat.not_lt_zero j)⟩
  case round =>
    obtain ⟨k, hk, rfl, H⟩ := hrel
    by_cases hlt : k < 16
    · have hsz : k < ({ data := #[48, 49, 50, 51, 52, 53, 54, 55, 56, 57, 97, 98, 99, 100, 101, 102] } : ByteArray).size := hlt
      have hsy : k < ({ data := #[48, 49, 50, 51, 52, 53, 54, 55, 56, 57, 65, 66, 67, 68, 69, 70] } : ByteArray).size := hlt
      by_cases hb1 : b = hexLo k
      · have hr := hexB_of b k hlt (.inl hb1)
        have Hr := Lib.hid hr
        have h1 : ((((({ data := #[48, 49, 50, 51, 52, 53, 54, 55, 56, 57, 97, 98, 99, 100, 101, 102] } : ByteArray)[k]'hlt).toNat : Nat) : Int) == b) = true := by rw [lo_at, hb1]; simp
        clear hr hb1
        go_wp2
        go_ret2
        rw [Hr.out]
        exact ⟨rfl, rfl⟩
      · have h1 : ((((({ data := #[48, 49, 50, 51, 52, 53, 54, 55, 56, 57, 97, 98, 99, 100, 101, 102] } : ByteArray)[k]'hlt).toNat : Nat) : Int) == b) = false := by rw [lo_at]; exact beq_eq_false_iff_ne.2 (Ne.symm hb1)
        by_cases hb2 : b = hexUp k
        · have hr := hexB_of b k hlt (.inr hb2)
          have Hr := Lib.hid hr
          have h2 : ((((({ data := #[48, 49, 50, 51, 52, 53, 54, 55, 56, 57, 65, 66, 67, 68, 69, 70] } : ByteArray)[k]'hlt).toNat : Nat) : Int) == b) = true := by rw [up_at, hb2]; simp
          clear hr hb1 hb2
          go_wp2
          go_ret2
          rw [Hr.out]
          exact ⟨rfl, rfl⟩
        · have h2 : ((((({ data := #[48, 49, 50, 51, 52, 53, 54, 55, 56, 57, 65, 66, 67, 68, 69, 70] } : ByteArray)[k]'hlt).toNat : Nat) : Int) == b) = false := by rw [up_at]; exact beq_eq_false_iff_ne.2 (Ne.symm hb2)
          have H' : Hid (∀ j, j < k + 1 → ¬ (b = hexLo j ∨ b = hexUp j)) := fun j hj => if e : j = k then by subst e; exact fun h => h.elim hb1 hb2 else H j (by omega)
          clear H hb1 hb2
          go_wp2
          go_round
          case rel => exact ⟨k + 1, by omega, by go_num, H'⟩
          case measure => simp [intOf]; omega
    · go_wp2
      go_ret2
      have e : hexB b = (0, false) := hexB_none b fun j hj => H j (by omega)
      rw [e]
      exact ⟨rfl, rfl⟩

/-! ### each class is the reference's -/
theorem digit_eq (b : Int) : inB 48 b 57 = inS [48, 49, 50, 51, 52, 53, 54, 55, 56, 57] b := by
  rw [Bool.eq_iff_iff]; simp [inB, inS]; omega
theorem space_eq (b : Int) : spaceB b = inS [9, 10, 11, 12, 13, 32] b := by
  rw [Bool.eq_iff_iff]; simp [spaceB, inB, inS]; omega
def allLetters : List UInt8 := [97, 98, 99, 100, 101, 102, 103, 104, 105, 106, 107, 108, 109, 110, 111, 112, 113, 114, 115, 116, 117, 118, 119, 120, 121, 122, 65, 66, 67, 68, 69, 70, 71, 72, 73, 74, 75, 76, 77, 78, 79, 80, 81, 82, 83, 84, 85, 86, 87, 88, 89, 90, 95]
set_option maxHeartbeats 400000 in
theorem refLetter_any (b : Int) (w : World) : Calls Try.prog 18 #[.int .u8 b] w fun e w' => e = .returned (.bool (inS allLetters b)) ∧ w = w' := by
  go_enter Try.func18, Try.ntmps18
  go_wp2_with (go_at_call 25; refine (in_any _ _ _ (by decide)).mono ?_; rintro e w' ⟨rfl, rfl⟩)
  go_ret
  exact ⟨rfl, rfl⟩
theorem letter_eq (b : Int) : letterB b = inS allLetters b := by
  rw [Bool.eq_iff_iff]; simp [letterB, inB, inS, allLetters]; omega
end Go.Proofs.Ytpncjpgjmpemiaa
