/- RunesNumbers, as walked. -/
import Derived.Test.YtpncjpgjmpemiaaLaw01
namespace Go.Proofs.Ytpncjpgjmpemiaa
open Go.RowKit

theorem encL_bad (n : Int) (h : n < 0 ∨ 2147483648 ≤ n) (W : World) : Calls Try.prog 7 #[.int .i64 n] W fun e w' => e = .returned (.tuple #[.string { data := #[] }, .int .i64 10]) ∧ Below W.heap.size W w' :=
  (encode_bad n W h).mono fun _ _ h => ⟨h.1, h.2 ▸ Below.refl _ _⟩
theorem encL_max (W : World) : Calls Try.prog 7 #[.int .i64 2147483647] W fun e w' => e = .returned (.tuple #[.string { data := #[253, 191, 191, 191, 191, 191] }, .int .i64 0]) ∧ Below W.heap.size W w' :=
  (encode_any 2147483647 W (by decide) (by decide)).mono fun _ _ h => ⟨by rw [h.1]; exact ret_str (by decide +kernel), h.2⟩
theorem encL_nul (W : World) : Calls Try.prog 7 #[.int .i64 0] W fun e w' => e = .returned (.tuple #[.string { data := #[0] }, .int .i64 0]) ∧ Below W.heap.size W w' :=
  (encode_any 0 W (by decide) (by decide)).mono fun _ _ h => ⟨by rw [h.1]; exact ret_str (by decide +kernel), h.2⟩
theorem each_bad (W : World) : Calls Try.prog 9 #[.string { data := #[237, 160, 128] }] W (EachSays [(65533, 0), (65533, 1), (65533, 2)] W) := by
  have h := each_any { data := #[237, 160, 128] } W (by decide)
  rw [show eachL ({ data := #[237, 160, 128] } : ByteArray).data.toList = [(65533, 0), (65533, 1), (65533, 2)] from by decide +kernel] at h
  exact h

def tenNums : List Int := [127, 128, 2047, 2048, 65535, 65536, 2097151, 2097152, 67108863, 67108864]
theorem ten_pos (j : Nat) (x : Int) (h : tenNums[j]? = some x) : 0 ≤ x ∧ x < 2147483648 := by
  have hm := List.mem_of_getElem? h
  revert hm
  simp only [tenNums, List.mem_cons, List.not_mem_nil, or_false]
  omega
theorem valid_c3 (W : World) : Calls Try.prog 13 #[.string { data := #[195] }] W fun e w' => e = .returned (.bool false) ∧ Below W.heap.size W w' :=
  (valid_any _ W (by decide)).mono fun _ _ h => ⟨h.1.trans (ret_bool (by decide +kernel)), h.2⟩
theorem valid_fd (W : World) : Calls Try.prog 13 #[.string { data := #[239, 191, 189] }] W fun e w' => e = .returned (.bool true) ∧ Below W.heap.size W w' :=
  (valid_any _ W (by decide)).mono fun _ _ h => ⟨h.1.trans (ret_bool (by decide +kernel)), h.2⟩
theorem valid_no (W : World) : Calls Try.prog 13 #[.string { data := #[] }] W fun e w' => e = .returned (.bool true) ∧ Below W.heap.size W w' :=
  (valid_any _ W (by decide)).mono fun _ _ h => ⟨h.1.trans (ret_bool (by decide +kernel)), h.2⟩

set_option maxRecDepth 100000 in
set_option maxHeartbeats 4000000 in
theorem runesNumbers_walk (w : World) : Calls Try.prog 5 #[] w fun e w' => e = .returned (.bool true) ∧ Below w.heap.size w w' := by
  go_enter Try.func5, Try.ntmps5
  go_wp2_with fail
  refine (encL_max _).mono ?_
  rintro e w1 ⟨rfl, b1⟩
  go_wp2_with fail
  refine (encL_bad (-1) (by decide) _).mono ?_
  rintro e w2 ⟨rfl, b2⟩
  go_wp2_with fail
  refine (encL_bad 2147483648 (by decide) _).mono ?_
  rintro e w3 ⟨rfl, b3⟩
  go_wp2_with fail
  refine (encL_nul _).mono ?_
  rintro e w4 ⟨rfl, b4⟩
  go_wp2_with fail
  refine (each_bad _).mono ?_
  rintro e w5 ⟨v1, v2, rfl, ho, ha, b5⟩
  obtain ⟨r1, r2⟩ := each_read (by decide) ho ha
  have s1 := b1.size
  have s2 := b2.size
  have s3 := b3.size
  have s4 := b4.size
  have bb5 : Below w.heap.size w w5 := (((b1.trans (b2.mono (by omega))).trans (b3.mono (by omega))).trans (b4.mono (by omega))).trans (b5.mono (by omega))
  have s5 := bb5.size
  clear b1 b2 b3 b4 b5 ho ha s1 s2 s3 s4
  go_wp2_with fail
  have l1 := lit_reads w5 .i32 21 [65533, 65533, 65533] 3 rfl (by decide)
  simp only [List.map_cons, List.map_nil] at l1
  refine (same_any _ _ _ _ _ (r1.later ((Below.refl w5.heap.size w5).alloc (Nat.le_refl _) _) (Nat.le_refl _)) l1).mono ?_
  rintro e w6 ⟨rfl, b6⟩
  have b6' : Below w5.heap.size w5 w6 := (((Below.refl w5.heap.size w5).alloc (Nat.le_refl _) _).trans (b6.mono (by simp)))
  have d1 : decide (runesOf [(65533, 0), (65533, 1), (65533, 2)] = [65533, 65533, 65533]) = true := by decide
  rw [d1]
  go_wp2_with fail
  have l2 := lit_reads w6 .i64 3 [0, 1, 2] 3 rfl (by decide)
  simp only [List.map_cons, List.map_nil] at l2
  refine (sameInts_any _ _ _ _ _ ((r2.later b6' (Nat.le_refl _)).later ((Below.refl w6.heap.size w6).alloc (Nat.le_refl _) _) (Nat.le_refl _)) l2).mono ?_
  rintro e w7 ⟨rfl, b7⟩
  have d2 : decide (placesOf [(65533, 0), (65533, 1), (65533, 2)] = [0, 1, 2]) = true := by decide
  rw [d2]
  have s6 := b6'.size
  have bb7 : Below w.heap.size w w7 := bb5.trans ((b6'.mono (by omega)).trans (((Below.refl _ w6).alloc (by omega) _).trans (b7.mono (by simp; omega))))
  clear b6 b6' b7 bb5 r1 r2 l1 l2 d1 d2 s5 s6
  go_wp2_with fail
  go_loop [12] (fun iv => ∃ k : Nat, k ≤ 256 ∧ iv = .int .i64 k) (fun iv => 256 - (intOf iv).toNat)
  case atStart => exact ⟨0, by omega, rfl⟩
  case round =>
    obtain ⟨k, hk, rfl⟩ := hrel
    have s7 := bb7.size
    by_cases hlt : k < 256
    · have h1 := fun W => refLetter_any (k : Int) W
      rw [← letter_eq] at h1
      have h2 := fun W => refDigit_any (k : Int) W
      rw [← digit_eq] at h2
      have h3 := fun W => refSpace_any (k : Int) W
      rw [← space_eq] at h3
      have H1 := Lib.hid h1
      have H2 := Lib.hid h2
      have H3 := Lib.hid h3
      clear h1 h2 h3
      go_wp2_with (first
        | (go_at_call 15; refine (hex_any _ _).mono ?_; rintro e w' ⟨rfl, rfl⟩)
        | (go_at_call 16; refine (refHex_any _ _).mono ?_; rintro e w' ⟨rfl, rfl⟩)
        | (go_at_call 17; refine (letter_any _ _).mono ?_; rintro e w' ⟨rfl, rfl⟩)
        | (go_at_call 18; refine (H1.out _).mono ?_; rintro e w' ⟨rfl, rfl⟩)
        | (go_at_call 19; refine (digit_any _ _).mono ?_; rintro e w' ⟨rfl, rfl⟩)
        | (go_at_call 20; refine (H2.out _).mono ?_; rintro e w' ⟨rfl, rfl⟩)
        | (go_at_call 21; refine (space_any _ _).mono ?_; rintro e w' ⟨rfl, rfl⟩)
        | (go_at_call 22; refine (H3.out _).mono ?_; rintro e w' ⟨rfl, rfl⟩))
      go_round
      case rel => first | exact ⟨k + 1, by omega, by go_num⟩ | ((repeat apply Exists.intro); exact ⟨⟨k + 1, by omega, by go_num⟩, rfl⟩)
      case measure => simp [intOf]; omega
    · go_wp2_with fail
      obtain ⟨wb, hwb⟩ : ∃ wb, w7.alloc (.cells #[.int .i64 127, .int .i64 128, .int .i64 2047, .int .i64 2048, .int .i64 65535, .int .i64 65536, .int .i64 2097151, .int .i64 2097152, .int .i64 67108863, .int .i64 67108864] 2) = wb := ⟨_, rfl⟩
      have hcell : ∀ i u, (tenNums.map (Value.int .i64))[i]? = some u → wb.cell? ⟨w7.heap.size, i, none⟩ = some u := by
        intro i u hu
        rw [← hwb, cell_of_row _ _ i _ _ (0, 0) (heap_alloc_new w7 _)]
        rw [← hu]; simp [tenNums]
      have hbb : Below w.heap.size w wb := by rw [← hwb]; exact bb7.alloc s7 _
      have hwz : w7.heap.size < wb.heap.size := by rw [← hwb]; simp
      rw [hwb]
      clear hwb bb7
      have HC := Lib.hid hcell
      clear hcell
      go_loopw [121] (fun iv wr => ∃ k : Nat, k ≤ 10 ∧ iv = .int .i64 k ∧ Below wb.heap.size wb wr) (fun iv _ => 10 - (intOf iv).toNat)
      case atStart => exact ⟨0, by omega, rfl, Below.refl _ _⟩
      case round =>
        obtain ⟨j, hj, rfl, hbel⟩ := hrel
        have hsz := hbel.size
        have hbz := hbb.size
        by_cases hjt : j < 10
        · obtain ⟨x, hx⟩ : ∃ x, tenNums[j]? = some x := ⟨_, List.getElem?_eq_getElem hjt⟩
          have hx0 := ten_pos j x hx
          have cx := (hbel.cell (p := ⟨w7.heap.size, j, none⟩) hwz).trans (HC.out j (.int .i64 x) (by rw [List.getElem?_map, hx]; rfl))
          have H1 := Lib.hid (fun W => encode_any x W hx0.1 hx0.2)
          have H2 := Lib.hid (fun W => refEncode_any x W hx0.1 hx0.2)
          clear hx0 hx
          go_wp2_with fail
          refine (H1.out _).mono ?_
          rintro e wc ⟨rfl, b8⟩
          go_wp2_with fail
          refine (H2.out _).mono ?_
          rintro e wd ⟨rfl, b9⟩
          have s8 := b8.size
          go_wp2_with fail
          go_roundw
          case rel => first | exact ⟨j + 1, by omega, by go_num, (hbel.trans (b8.mono (by omega))).trans (b9.mono (by omega))⟩ | ((repeat apply Exists.intro); exact ⟨⟨j + 1, by omega, by go_num, (hbel.trans (b8.mono (by omega))).trans (b9.mono (by omega))⟩, rfl⟩)
          case measure => simp [intOf]; omega
        · go_wp2_with fail
          refine (valid_c3 _).mono ?_
          rintro e wc ⟨rfl, b8⟩
          go_wp2_with fail
          refine (valid_fd _).mono ?_
          rintro e wd ⟨rfl, b9⟩
          go_wp2_with fail
          refine (valid_no _).mono ?_
          rintro e we ⟨rfl, b10⟩
          go_wp2_with fail
          refine (awake1_any _).mono ?_
          rintro e wf ⟨rfl, b11⟩
          go_wp2_with fail
          go_ret
          have s8 := b8.size
          have s9 := b9.size
          have s10 := b10.size
          exact ⟨rfl, (((((hbb.trans (hbel.mono (by omega))).trans (b8.mono (by omega))).trans (b9.mono (by omega))).trans (b10.mono (by omega))).trans (b11.mono (by omega)))⟩
end Go.Proofs.Ytpncjpgjmpemiaa
