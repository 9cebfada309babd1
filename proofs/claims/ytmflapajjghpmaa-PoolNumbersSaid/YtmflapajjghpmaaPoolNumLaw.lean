/- PoolNumbers, as walked: the law. -/
import Derived.Test.YtmflapajjghpmaaPoolNum
namespace Go.Proofs.Ytmflapajjghpmaa
open Go.RowKit

theorem size_to {B b : Nat} {w0 w : World} {st : PS} (h : PoolOk B w0 w b st) (id n : Int) (t : Bool) (hr : sizeP st id = (n, t)) :
    Calls Try.prog 32 #[.pointer (some ⟨b, 0, none⟩), .int .i64 id] w fun e w' => e = .returned (.tuple #[.int .i64 n, .bool t]) ∧ w = w' := by
  have := size_ok h id
  rw [hr] at this
  exact this
theorem count_to {B b : Nat} {w0 w : World} {st : PS} (h : PoolOk B w0 w b st) (n : Int) (hr : st.count = n) :
    Calls Try.prog 33 #[.pointer (some ⟨b, 0, none⟩)] w fun e w' => e = .returned (.int .i64 n) ∧ w = w' := by
  have := count_ok h
  rw [hr] at this
  exact this
theorem used_to {B b : Nat} {w0 w : World} {st : PS} (h : PoolOk B w0 w b st) (n : Int) (hr : st.used = n) :
    Calls Try.prog 20 #[.pointer (some ⟨b, 0, none⟩)] w fun e w' => e = .returned (.int .i64 n) ∧ w = w' := by
  have := used_ok h
  rw [hr] at this
  exact this

set_option maxRecDepth 100000 in
set_option maxHeartbeats 16000000 in
theorem poolNumbers_any (w : World) : Calls Try.prog 7 #[] w fun e w' => e = .returned (.bool true) ∧ Below w.heap.size w w' := by
  obtain ⟨S, s1, s2, s3, s4, s5, s6, z1, zt, zf, zi, zo, zc, g1, g2, g3, k1, k2, k3, hu⟩ := num_states
  obtain ⟨A, B, ae, a1, a2, a3, a4, a5, a6, a7, a8, a9, a10⟩ := first_states
  have AE := Lib.hid ae
  have A1 := Lib.hid a1
  have A2 := Lib.hid a2
  have A3 := Lib.hid a3
  have A4 := Lib.hid a4
  have A5 := Lib.hid a5
  have A6 := Lib.hid a6
  have A7 := Lib.hid a7
  have A8 := Lib.hid a8
  have A9 := Lib.hid a9
  have A10 := Lib.hid a10
  clear ae a1 a2 a3 a4 a5 a6 a7 a8 a9 a10
  have Z1 := Lib.hid z1
  have ZT := Lib.hid zt
  have ZF := Lib.hid zf
  have ZI := Lib.hid zi
  have ZO := Lib.hid zo
  have ZC := Lib.hid zc
  have G1 := Lib.hid g1
  have G2 := Lib.hid g2
  have G3 := Lib.hid g3
  have K1 := Lib.hid k1
  have K2 := Lib.hid k2
  have K3 := Lib.hid k3
  have HU := Lib.hid hu
  clear g1 g2 g3 k1 k2 k3 hu z1 zt zf zi zo zc
  go_enter Try.func7, Try.ntmps7
  go_wp2_with (first
    | (go_at_call 16; refine (new_bad _ _ ?_).mono ?_; (first | (left; decide) | (right; decide)); rintro e w' ⟨rfl, rfl⟩)
    | (go_at_call 16; refine (new_ok _ _ ?_ ?_).mono ?_; decide; decide; rintro e w' ⟨rfl, h0⟩))
  rw [← AE.out] at h0
  go_wp2_with (first
    | (go_at_call 19; refine (take_to h0 (-1) 0 2 A1.out).mono ?_; rintro e w' ⟨rfl, h1⟩; clear h0)
    | (go_at_call 19; refine (take_to h1 1073741825 0 5 A2.out).mono ?_; rintro e w' ⟨rfl, h2⟩; clear h1)
    | (go_at_call 17; refine (give_to h2 9 2 A3.out).mono ?_; rintro e w' ⟨rfl, h3⟩; clear h2)
    | (go_at_call 17; refine (give_to h3 0 2 A4.out).mono ?_; rintro e w' ⟨rfl, h4⟩; clear h3)
    | (go_at_call 18; refine (resize_to h4 1 1 2 A5.out).mono ?_; rintro e w' ⟨rfl, h5⟩; clear h4)
    | (go_at_call 31; refine (take1_ok h5 1073741824 1 A6.out).mono ?_; rintro e w' ⟨rfl, h6⟩; clear h5)
    | (go_at_call 18; refine (resize_to h6 1 (-1) 2 A7.out).mono ?_; rintro e w' ⟨rfl, h7⟩; clear h6)
    | (go_at_call 18; refine (resize_to h7 1 1073741825 5 A8.out).mono ?_; rintro e w' ⟨rfl, h8⟩; clear h7)
    | (go_at_call 19; refine (take_to h8 1 0 5 A9.out).mono ?_; rintro e w' ⟨rfl, h9⟩; clear h8)
    | (go_at_call 18; refine (resize_to h9 1 0 0 A10.out).mono ?_; rintro e w' ⟨rfl, h10⟩; clear h9))
  rw [← Z1.out] at h10
  have HB := Lib.hid h10
  rename_i w1
  go_loopw [14] (fun iv wr => ∃ k : Nat, 1 ≤ k ∧ k ≤ 65536 ∧ iv = .int .i64 ((k : Int) + 1) ∧ PoolOk w.heap.size w wr w.heap.size (S k)) (fun iv _ => 65537 - (intOf iv).toNat)
  case atStart => exact ⟨1, Nat.le_refl _, by omega, rfl, HB.out⟩
  case round =>
    obtain ⟨k, hk1, hk2, rfl, hok⟩ := hrel
    by_cases hlt : k < 65536
    · have HT := Lib.hid (ZT.out k hlt)
      have HK : Hid (1 ≤ k ∧ k < 65536) := ⟨hk1, hlt⟩
      have kl : (k : Int) + 1 ≤ 65536 := by omega
      clear hlt hk1 hk2
      go_wp2_with (go_at_call 31; refine (take1_ok hok 0 ((k : Int) + 1) HT.out).mono ?_; rintro e w' ⟨rfl, hok2⟩)
      go_roundw
      case rel => exact ⟨k + 1, by omega, HK.out.2, by go_num, hok2⟩
      case measure =>
        have := HK.out.2
        simp [intOf]; omega
    · have hk : k = 65536 := by omega
      rw [hk] at hok
      have hki : ¬ ((k : Int) + 1 ≤ 65536) := by omega
      clear hk hk1 hk2 hlt
      go_wp2_with (first
        | (go_at_call 19; refine (take_to hok 0 0 5 ZF.out).mono ?_; rintro e w' ⟨rfl, j1⟩; clear hok)
        | (go_at_call 32; refine (size_to j1 65536 0 true ZI.out).mono ?_; rintro e w' ⟨rfl, rfl⟩; clear ZI)
        | (go_at_call 32; refine (size_to j1 65537 0 false ZO.out).mono ?_; rintro e w' ⟨rfl, rfl⟩)
        | (go_at_call 33; refine (count_to j1 65536 ZC.out).mono ?_; rintro e w' ⟨rfl, rfl⟩)
        | (go_at_call 17; refine (give_to j1 700 0 G1.out).mono ?_; rintro e w' ⟨rfl, j2⟩; clear j1)
        | (go_at_call 17; refine (give_to j2 70 0 G2.out).mono ?_; rintro e w' ⟨rfl, j3⟩; clear j2)
        | (go_at_call 17; refine (give_to j3 7000 0 G3.out).mono ?_; rintro e w' ⟨rfl, j4⟩; clear j3)
        | (go_at_call 31; refine (take1_ok j4 5 70 K1.out).mono ?_; rintro e w' ⟨rfl, j5⟩; clear j4)
        | (go_at_call 31; refine (take1_ok j5 6 700 K2.out).mono ?_; rintro e w' ⟨rfl, j6⟩; clear j5)
        | (go_at_call 31; refine (take1_ok j6 7 7000 K3.out).mono ?_; rintro e w' ⟨rfl, j7⟩; clear j6)
        | (go_at_call 20; refine (used_to j7 18 HU.out).mono ?_; rintro e w' ⟨rfl, rfl⟩)
        | (go_at_call 21; refine (awake_any _).mono ?_; rintro e w' ⟨rfl, ha⟩))
      go_ret
      exact ⟨rfl, j7.below.trans (ha.mono j7.size)⟩
end Go.Proofs.Ytmflapajjghpmaa
