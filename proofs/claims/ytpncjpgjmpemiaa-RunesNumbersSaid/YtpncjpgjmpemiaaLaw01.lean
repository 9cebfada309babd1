/- The fixed examples of the statements of layer 1 (awake), as walked, and RunesTells. -/
import Derived.Test.YtpncjpgjmpemiaaEach2
import Derived.Test.YtpncjpgjmpemiaaSameR
import Derived.Test.YtpncjpgjmpemiaaRefBytes
namespace Go.Proofs.Ytpncjpgjmpemiaa
open Go.RowKit

theorem lit_reads (W : World) (k : IntKind) (E : TypeId) (L : List Int) (n : Nat) (hn : L.length = n) (hm : n ≤ 4611686018427387904) : Reads k (W.alloc (.cells (L.map (Value.int k)).toArray E)) (.slice (some ⟨W.heap.size, 0, none⟩) n n) L := by
  subst hn
  exact owns_reads (owns_block W (L.map (Value.int k)) E L.length (by simp) (by unfold maxLen; omega) 0 (Nat.zero_le _)) hm

theorem enc_228 (W : World) : Calls Try.prog 7 #[.int .i64 228] W fun e w' => e = .returned (.tuple #[.string { data := #[195, 164] }, .int .i64 0]) ∧ Below W.heap.size W w' :=
  (encode_any 228 W (by decide) (by decide)).mono fun e w' h => ⟨by rw [h.1]; rfl, h.2⟩
theorem enc_8364 (W : World) : Calls Try.prog 7 #[.int .i64 8364] W fun e w' => e = .returned (.tuple #[.string { data := #[226, 130, 172] }, .int .i64 0]) ∧ Below W.heap.size W w' :=
  (encode_any 8364 W (by decide) (by decide)).mono fun e w' h => ⟨by rw [h.1]; rfl, h.2⟩
theorem each_awake (W : World) : Calls Try.prog 9 #[.string { data := #[97, 195, 164, 98] }] W (EachSays [(97, 0), (228, 1), (98, 3)] W) := by
  have h := each_any { data := #[97, 195, 164, 98] } W (by decide)
  rw [show eachL ({ data := #[97, 195, 164, 98] } : ByteArray).data.toList = [(97, 0), (228, 1), (98, 3)] from by decide +kernel] at h
  exact h
theorem each_read {l : List (Nat × Nat)} {w w' : World} {v1 v2 : Value} (h : l.length ≤ 200000) (ho : w'.ownsRow w.heap.size 21 1 v1 l.length ((runesOf l).map (Value.int .i32))) (ha : w'.ownsRow w.heap.size 3 1 v2 l.length ((placesOf l).map (Value.int .i64))) :
    Reads .i32 w' v1 (runesOf l) ∧ Reads .i64 w' v2 (placesOf l) := by
  rw [← runesOf_len l] at ho
  rw [← placesOf_len l] at ha
  exact ⟨owns_reads ho (by rw [runesOf_len]; omega), owns_reads ha (by rw [placesOf_len]; omega)⟩

set_option maxHeartbeats 2000000 in
theorem awake1_any (w : World) : Calls Try.prog 6 #[] w fun e w' => e = .returned (.bool true) ∧ Below w.heap.size w w' := by
  have hh : hexB 70 = (15, true) := by decide
  have hx := hex_any 70
  rw [hh] at hx
  go_enter Try.func6, Try.ntmps6
  go_wp2_with fail
  refine (enc_228 _).mono ?_
  rintro e w1 ⟨rfl, b1⟩
  go_wp2_with fail
  refine (enc_8364 _).mono ?_
  rintro e w2 ⟨rfl, b2⟩
  go_wp2_with fail
  refine (each_awake _).mono ?_
  rintro e w3 ⟨v1, v2, rfl, ho, ha, b3⟩
  obtain ⟨r1, r2⟩ := each_read (by decide) ho ha
  clear ho ha
  have s1 := b1.size
  have s2 := b2.size
  have s3 := b3.size
  have bb3 : Below w.heap.size w w3 := (b1.trans (b2.mono s1)).trans (b3.mono (by omega))
  clear b1 b2 b3
  go_wp2_with fail
  refine (hx _).mono ?_
  rintro e w4 ⟨rfl, rfl⟩
  go_wp2_with fail
  have l1 := lit_reads w3 .i32 21 [97, 228, 98] 3 rfl (by decide)
  simp only [List.map_cons, List.map_nil] at l1
  refine (same_any _ _ _ _ _ (r1.later ((Below.refl w3.heap.size w3).alloc (Nat.le_refl _) _) (Nat.le_refl _)) l1).mono ?_
  rintro e w5 ⟨rfl, b5⟩
  have b5' : Below w3.heap.size w3 w5 := (((Below.refl w3.heap.size w3).alloc (Nat.le_refl _) _).trans (b5.mono (by simp)))
  have d1 : decide (runesOf [(97, 0), (228, 1), (98, 3)] = [97, 228, 98]) = true := by decide
  rw [d1]
  go_wp2_with fail
  have l2 := lit_reads w5 .i64 3 [0, 1, 3] 3 rfl (by decide)
  simp only [List.map_cons, List.map_nil] at l2
  refine (sameInts_any _ _ _ _ _ ((r2.later b5' (Nat.le_refl _)).later ((Below.refl w5.heap.size w5).alloc (Nat.le_refl _) _) (Nat.le_refl _)) l2).mono ?_
  rintro e w6 ⟨rfl, b6⟩
  have d2 : decide (placesOf [(97, 0), (228, 1), (98, 3)] = [0, 1, 3]) = true := by decide
  rw [d2]
  go_wp2_with fail
  go_ret
  refine ⟨rfl, bb3.trans ((b5'.mono (by omega)).trans ?_)⟩
  have s5 := b5'.size
  exact ((Below.refl _ w5).alloc (by omega) _).trans (b6.mono (by simp; omega))

set_option maxHeartbeats 2000000 in
theorem runesTells_walk (n : Int) (s : ByteArray) (w : World) (hs : s.size ≤ maxLen) : Calls Try.prog 3 #[.int .i64 n, .string s] w fun e w' => e = .returned (.bool true) ∧ Below w.heap.size w w' := by
  unfold maxLen at hs
  by_cases hl : 5000 < s.size
  · go_enter Try.func3, Try.ntmps3
    go_wp2_with (go_at_call 6; refine (awake1_any _).mono ?_; rintro e w1 ⟨rfl, b1⟩)
    go_ret
    exact ⟨rfl, b1⟩
  · have hs' : s.size ≤ 100000 := by omega
    have hle : (eachL s.data.toList).length ≤ 200000 := by
      have := eachF_len s.data.toList s.data.toList.length 0
      unfold eachL
      have e : s.data.toList.length = s.size := by simp
      omega
    obtain ⟨T, c, h1, h2⟩ : ∃ (T : ByteArray) (c : Int), (∀ W, Calls Try.prog 7 #[.int .i64 n] W fun e w' => e = .returned (.tuple #[.string T, .int .i64 c]) ∧ Below W.heap.size W w') ∧
        (∀ W, Calls Try.prog 8 #[.int .i64 n] W fun e w' => e = .returned (.tuple #[.string T, .int .i64 c]) ∧ Below W.heap.size W w') := by
      by_cases hb : n < 0 ∨ 2147483648 ≤ n
      · exact ⟨_, _, fun W => (encode_bad n W hb).mono fun e w' h => ⟨h.1, h.2 ▸ Below.refl _ _⟩, fun W => (refEncode_bad n W hb).mono fun e w' h => ⟨h.1, h.2 ▸ Below.refl _ _⟩⟩
      · exact ⟨_, _, fun W => encode_any n W (by omega) (by omega), fun W => refEncode_any n W (by omega) (by omega)⟩
    have H1 := Lib.hid h1
    have H2 := Lib.hid h2
    clear h1 h2
    go_enter Try.func3, Try.ntmps3
    go_wp2_with fail
    refine (H1.out _).mono ?_
    rintro e w1 ⟨rfl, b1⟩
    go_wp2_with fail
    refine (H2.out _).mono ?_
    rintro e w2 ⟨rfl, b2⟩
    go_wp2_with fail
    refine (each_any s _ hs').mono ?_
    rintro e w3 ⟨v1, v2, rfl, ho, ha, b3⟩
    obtain ⟨r1, r2⟩ := each_read hle ho ha
    go_wp2_with fail
    refine (refEach_any s _ hs').mono ?_
    rintro e w4 ⟨u1, u2, rfl, ho', ha', b4⟩
    obtain ⟨q1, q2⟩ := each_read hle ho' ha'
    have r1' := r1.later b4 (Nat.le_refl _)
    have r2' := r2.later b4 (Nat.le_refl _)
    have s1 := b1.size
    have s2 := b2.size
    have s3 := b3.size
    have s4 := b4.size
    have bb4 : Below w.heap.size w w4 := ((b1.trans (b2.mono s1)).trans (b3.mono (by omega))).trans (b4.mono (by omega))
    clear ho ha ho' ha' r1 r2 b1 b2 b3 b4
    go_wp2_with fail
    refine (same_any _ _ _ _ _ r1' q1).mono ?_
    rintro e w5 ⟨rfl, b5⟩
    rw [decide_eq_true rfl]
    go_wp2_with fail
    refine (sameInts_any _ _ _ _ _ (r2'.later b5 (Nat.le_refl _)) (q2.later b5 (Nat.le_refl _))).mono ?_
    rintro e w6 ⟨rfl, b6⟩
    rw [decide_eq_true rfl]
    go_wp2_with fail
    refine (valid_any s _ hs').mono ?_
    rintro e w7 ⟨rfl, b7⟩
    go_wp2_with fail
    refine (refValid_any s _ hs').mono ?_
    rintro e w8 ⟨rfl, b8⟩
    have s5 := b5.size
    have s6 := b6.size
    have s7 := b7.size
    have bb8 : Below w.heap.size w w8 := (((bb4.trans (b5.mono (by omega))).trans (b6.mono (by omega))).trans (b7.mono (by omega))).trans (b8.mono (by omega))
    have s8 := b8.size
    clear b5 b6 b7 b8 bb4
    go_wp2_with fail
    refine (awake1_any _).mono ?_
    rintro e w9 ⟨rfl, b9⟩
    go_wp2_with fail
    go_ret
    exact ⟨rfl, bb8.trans (b9.mono (by omega))⟩
end Go.Proofs.Ytpncjpgjmpemiaa
