/- The reference's Encode, as walked: the bytes of a number. -/
import Derived.Test.YtpncjpgjmpemiaaDoorEncode
import Derived.Test.YtpncjpgjmpemiaaDoorKit
namespace Go.Proofs.YtpncjpgjmpemiaaDoor
open Go.RowKit
set_option linter.unusedSimpArgs false
set_option linter.unusedVariables false

theorem Tryd.elemU8 : Elem Tryd.prog 51 5 (.int .u8 0) 1 1 := ⟨Tryd.uBytes, Tryd.infoU8⟩

/-- the bytes behind the first one, the last one first -/
def tailL (n : Int) : Nat → List Int
  | 0 => []
  | j + 1 => tailL n j ++ [128 + (n / 64 ^ j) % 64]
theorem tailL_len (n : Int) (j : Nat) : (tailL n j).length = j := by induction j <;> simp_all [tailL]
theorem div_step (n : Int) (j : Nat) : n / 64 ^ j / 64 = n / 64 ^ (j + 1) := by rw [Int.pow_succ, Int.ediv_ediv, if_neg (fun h => by have h2 : (0 : Int) ≤ 64 ^ j := Int.pow_nonneg (by decide); omega), Int.sub_zero]
theorem tail_at (n : Int) (t p : Nat) (h : p < t) : (tailL n t)[p]? = some (128 + (n / 64 ^ p) % 64) := by
  induction t with
  | zero => omega
  | succ t ih =>
    simp only [tailL]
    by_cases e : p = t
    · subst e; rw [List.getElem?_append_right (by rw [tailL_len]; omega), tailL_len]; simp
    · rw [List.getElem?_append_left (by rw [tailL_len]; omega), ih (by omega)]

set_option maxHeartbeats 400000 in
theorem refEncode_bad (n : Int) (w : World) (h : n < 0 ∨ 2147483648 ≤ n) : Calls Tryd.prog 66 #[.int .i64 n] w fun e w' => e = .returned (.tuple #[.string .empty, .int .i64 10]) ∧ w = w' := by
  rcases h with h | h
  · go_enter Tryd.func66, Tryd.ntmps66
    go_wp2
    go_ret2
    exact ⟨rfl, rfl⟩
  · have h0 : ¬ n < 0 := by omega
    go_enter Tryd.func66, Tryd.ntmps66
    go_wp2
    go_ret2
    exact ⟨rfl, rfl⟩

set_option maxHeartbeats 400000 in
theorem refEncode_1 (n : Int) (w : World) (h0 : 0 ≤ n) (h1 : n < 128) : Calls Tryd.prog 66 #[.int .i64 n] w fun e w' => e = .returned (.tuple #[.string (encStr n.toNat), .int .i64 0]) ∧ Below w.heap.size w w' := by
  have hc := fun W x => conv_last W [x] 1 rfl
  simp only [List.map_cons, List.map_nil] at hc
  go_enter Tryd.func66, Tryd.ntmps66
  go_wp2
  go_ret2
  refine ⟨ret_str ?_, by go_grown⟩
  unfold encStr encN
  rw [if_pos (by omega)]
  exact congrArg strOfNums (by simp; omega)

set_option maxHeartbeats 1000000 in
theorem refEncode_2 (n : Int) (w : World) (h0 : 128 ≤ n) (h1 : n < 2048) : Calls Tryd.prog 66 #[.int .i64 n] w fun e w' => e = .returned (.tuple #[.string (encStr n.toNat), .int .i64 0]) ∧ Below w.heap.size w w' := by
  go_enter Tryd.func66, Tryd.ntmps66
  go_wp2
  go_rounds 8
  go_loopw [0, 6, 7] (fun nv tv iv wr => ∃ j : Nat, j ≤ 1 ∧ iv = .int .i64 ((j : Int) + 1) ∧ nv = .int .i64 (n / 64 ^ j) ∧ wr.ownsRow w.heap.size 5 1 tv j ((tailL n j).map (Value.int .u8)) ∧ Below w.heap.size w wr) (fun _ _ iv _ => 3 - (intOf iv).toNat)
  case atStart => exact ⟨0, by omega, rfl, by simp, World.ownsRow_nil _ _ _ _, Below.refl _ _⟩
  case round =>
    obtain ⟨j, hj, rfl, rfl, hown, hbel⟩ := hrel
    obtain ⟨m, hm⟩ : ∃ m, n / 64 ^ j = m := ⟨_, rfl⟩
    have m0 : 0 ≤ m := by rw [← hm]; exact Int.ediv_nonneg (by omega) (Int.pow_nonneg (by decide))
    have m1 : m ≤ n := by rw [← hm]; exact Int.ediv_le_self _ (by omega)
    have hsz := hbel.size
    rw [hm]
    by_cases hlt : j < 1
    · have Hm := Lib.hid hm; clear hm
      go_wp2_with (at_builtin; refine wpList_append_1 Tryd.elemU8 rfl wr rfl _ _ rfl rfl hown _ rfl rfl (by omega) (by omega) hsz hbel ?_; intro v' w1 hown' hbel' _)
      go_roundw
      case rel => exact ⟨j + 1, by omega, by go_num, by rw [← Hm.out, div_step], by rw [tailL, List.map_append, Hm.out]; exact hown', hbel'⟩
      case measure => simp [intOf]; omega
    · obtain rfl : j = 1 := by omega
      have e64 : (64 : Int) ^ 1 = 64 := by decide
      rw [e64] at hm
      have m2 : m < 32 := by omega
      clear e64
      have Hm := Lib.hid hm; clear hm
      obtain ⟨g, cap, rfl, hg, hgs, hc, hcm, hcell⟩ := owns_at hown (by omega)
      unfold maxLen at hcm
      go_wp2
      go_rounds 8
      obtain ⟨wo, rfl⟩ : ∃ wo : World, wo = wr := ⟨_, rfl⟩
      go_loopw [10, 11] (fun ov iv wr2 => ∃ q j : Nat, q + j = 1 ∧ iv = .int .i64 ((q : Int) - 1) ∧ wr2.ownsRow wo.heap.size 5 1 ov (j + 1) (((192 + m) :: (tailL n 1).reverse.take j).map (Value.int .u8)) ∧ Below wo.heap.size wo wr2) (fun _ iv _ => (intOf iv + 1).toNat)
      case atStart => exact ⟨1, 0, rfl, by go_num, owns_block wo [_] _ 1 rfl (by decide) _ (Nat.le_refl _), (Below.refl _ _).alloc (Nat.le_refl _) _⟩
      case round =>
        obtain ⟨q, j, hqj, rfl, hown2, hbel2⟩ := hrel
        have hsz2 := hbel2.size
        rcases q with _ | p
        · obtain rfl : j = 1 := by omega
          obtain ⟨L, hL⟩ : ∃ L, L = (192 + m) :: (tailL n 1).reverse.take 1 := ⟨_, rfl⟩
          rw [← hL] at hown2
          have hll : L.length = 2 := by rw [hL]; simp [tailL_len]
          obtain ⟨g2, cap2, rfl, hg2, hgs2, hc2, hcm2, hcell2⟩ := owns_at hown2 (by omega)
          have hconv := run_convert_bytes_arg (P := Tryd.prog) wr 51 5 Tryd.uBytes Tryd.uU8 g2 0 2 cap2 L hll (fun i hi => by rw [Nat.zero_add]; exact hcell2 i _ (map_at L _ i (by omega))) 9 Tryd.uStr
          have HL : Hid (L = (192 + m) :: (tailL n 1).reverse.take 1 ∧ L.length = 2) := ⟨hL, hll⟩
          clear hL hll hcell2 hcell
          go_wp2
          go_ret2
          refine ⟨ret_str ?_, (hbel.trans (hbel2.mono (by omega)))⟩
          have hm : n / 64 ^ 1 = m := Hm.out
          rw [show (64 : Int) ^ 1 = 64 by decide] at hm
          rw [HL.out.1]
          unfold encStr encN
          rw [if_neg (by omega), if_pos (by omega)]
          exact congrArg strOfNums (by simp [tailL]; omega)
        · have ep : ((p + 1 : Nat) : Int) - 1 = p := by omega
          rw [ep]; clear ep
          have hcp : wr.cell? ⟨g, p, none⟩ = some (.int .u8 (128 + (n / 64 ^ p) % 64)) := (hbel2.cell (p := ⟨g, p, none⟩) hgs).trans (hcell p _ (by rw [List.getElem?_map, tail_at n _ p (by omega)]; rfl))
          have hjlt : j < 1 := by omega
          have Hl : Hid ((tailL n 1).reverse.take (j + 1) = (tailL n 1).reverse.take j ++ [128 + (n / 64 ^ p) % 64]) := by
            show _ = _
            rw [List.take_add_one, List.getElem?_reverse (by rw [tailL_len]; omega), tailL_len, show 1 - 1 - j = p from by omega, tail_at n _ p (by omega)]
            rfl
          clear hcell
          go_wp2_with (at_builtin; refine wpList_append_1 Tryd.elemU8 rfl wr rfl _ _ rfl rfl hown2 _ rfl rfl (by omega) (by omega) hsz2 hbel2 ?_; intro v' w1 hown' hbel' _)
          go_roundw
          case rel => first | exact ⟨p, j + 1, by omega, by go_num, by rw [Hl.out, ← List.cons_append, List.map_append]; exact hown', hbel'⟩ | ((repeat apply Exists.intro); exact ⟨⟨p, j + 1, by omega, by go_num, by rw [Hl.out, ← List.cons_append, List.map_append]; exact hown', hbel'⟩, rfl⟩)
          case measure => simp [intOf]

set_option maxHeartbeats 1000000 in
theorem refEncode_3 (n : Int) (w : World) (h0 : 2048 ≤ n) (h1 : n < 65536) : Calls Tryd.prog 66 #[.int .i64 n] w fun e w' => e = .returned (.tuple #[.string (encStr n.toNat), .int .i64 0]) ∧ Below w.heap.size w w' := by
  go_enter Tryd.func66, Tryd.ntmps66
  go_wp2
  go_rounds 8
  go_loopw [0, 6, 7] (fun nv tv iv wr => ∃ j : Nat, j ≤ 2 ∧ iv = .int .i64 ((j : Int) + 1) ∧ nv = .int .i64 (n / 64 ^ j) ∧ wr.ownsRow w.heap.size 5 1 tv j ((tailL n j).map (Value.int .u8)) ∧ Below w.heap.size w wr) (fun _ _ iv _ => 4 - (intOf iv).toNat)
  case atStart => exact ⟨0, by omega, rfl, by simp, World.ownsRow_nil _ _ _ _, Below.refl _ _⟩
  case round =>
    obtain ⟨j, hj, rfl, rfl, hown, hbel⟩ := hrel
    obtain ⟨m, hm⟩ : ∃ m, n / 64 ^ j = m := ⟨_, rfl⟩
    have m0 : 0 ≤ m := by rw [← hm]; exact Int.ediv_nonneg (by omega) (Int.pow_nonneg (by decide))
    have m1 : m ≤ n := by rw [← hm]; exact Int.ediv_le_self _ (by omega)
    have hsz := hbel.size
    rw [hm]
    by_cases hlt : j < 2
    · have Hm := Lib.hid hm; clear hm
      go_wp2_with (at_builtin; refine wpList_append_1 Tryd.elemU8 rfl wr rfl _ _ rfl rfl hown _ rfl rfl (by omega) (by omega) hsz hbel ?_; intro v' w1 hown' hbel' _)
      go_roundw
      case rel => exact ⟨j + 1, by omega, by go_num, by rw [← Hm.out, div_step], by rw [tailL, List.map_append, Hm.out]; exact hown', hbel'⟩
      case measure => simp [intOf]; omega
    · obtain rfl : j = 2 := by omega
      have e64 : (64 : Int) ^ 2 = 4096 := by decide
      rw [e64] at hm
      have m2 : m < 16 := by omega
      clear e64
      have Hm := Lib.hid hm; clear hm
      obtain ⟨g, cap, rfl, hg, hgs, hc, hcm, hcell⟩ := owns_at hown (by omega)
      unfold maxLen at hcm
      go_wp2
      go_rounds 8
      obtain ⟨wo, rfl⟩ : ∃ wo : World, wo = wr := ⟨_, rfl⟩
      go_loopw [10, 11] (fun ov iv wr2 => ∃ q j : Nat, q + j = 2 ∧ iv = .int .i64 ((q : Int) - 1) ∧ wr2.ownsRow wo.heap.size 5 1 ov (j + 1) (((224 + m) :: (tailL n 2).reverse.take j).map (Value.int .u8)) ∧ Below wo.heap.size wo wr2) (fun _ iv _ => (intOf iv + 1).toNat)
      case atStart => exact ⟨2, 0, rfl, by go_num, owns_block wo [_] _ 1 rfl (by decide) _ (Nat.le_refl _), (Below.refl _ _).alloc (Nat.le_refl _) _⟩
      case round =>
        obtain ⟨q, j, hqj, rfl, hown2, hbel2⟩ := hrel
        have hsz2 := hbel2.size
        rcases q with _ | p
        · obtain rfl : j = 2 := by omega
          obtain ⟨L, hL⟩ : ∃ L, L = (224 + m) :: (tailL n 2).reverse.take 2 := ⟨_, rfl⟩
          rw [← hL] at hown2
          have hll : L.length = 3 := by rw [hL]; simp [tailL_len]
          obtain ⟨g2, cap2, rfl, hg2, hgs2, hc2, hcm2, hcell2⟩ := owns_at hown2 (by omega)
          have hconv := run_convert_bytes_arg (P := Tryd.prog) wr 51 5 Tryd.uBytes Tryd.uU8 g2 0 3 cap2 L hll (fun i hi => by rw [Nat.zero_add]; exact hcell2 i _ (map_at L _ i (by omega))) 9 Tryd.uStr
          have HL : Hid (L = (224 + m) :: (tailL n 2).reverse.take 2 ∧ L.length = 3) := ⟨hL, hll⟩
          clear hL hll hcell2 hcell
          go_wp2
          go_ret2
          refine ⟨ret_str ?_, (hbel.trans (hbel2.mono (by omega)))⟩
          have hm : n / 64 ^ 2 = m := Hm.out
          rw [show (64 : Int) ^ 2 = 4096 by decide] at hm
          rw [HL.out.1]
          unfold encStr encN
          rw [if_neg (by omega), if_neg (by omega), if_pos (by omega)]
          exact congrArg strOfNums (by simp [tailL]; omega)
        · have ep : ((p + 1 : Nat) : Int) - 1 = p := by omega
          rw [ep]; clear ep
          have hcp : wr.cell? ⟨g, p, none⟩ = some (.int .u8 (128 + (n / 64 ^ p) % 64)) := (hbel2.cell (p := ⟨g, p, none⟩) hgs).trans (hcell p _ (by rw [List.getElem?_map, tail_at n _ p (by omega)]; rfl))
          have hjlt : j < 2 := by omega
          have Hl : Hid ((tailL n 2).reverse.take (j + 1) = (tailL n 2).reverse.take j ++ [128 + (n / 64 ^ p) % 64]) := by
            show _ = _
            rw [List.take_add_one, List.getElem?_reverse (by rw [tailL_len]; omega), tailL_len, show 2 - 1 - j = p from by omega, tail_at n _ p (by omega)]
            rfl
          clear hcell
          go_wp2_with (at_builtin; refine wpList_append_1 Tryd.elemU8 rfl wr rfl _ _ rfl rfl hown2 _ rfl rfl (by omega) (by omega) hsz2 hbel2 ?_; intro v' w1 hown' hbel' _)
          go_roundw
          case rel => first | exact ⟨p, j + 1, by omega, by go_num, by rw [Hl.out, ← List.cons_append, List.map_append]; exact hown', hbel'⟩ | ((repeat apply Exists.intro); exact ⟨⟨p, j + 1, by omega, by go_num, by rw [Hl.out, ← List.cons_append, List.map_append]; exact hown', hbel'⟩, rfl⟩)
          case measure => simp [intOf]

set_option maxHeartbeats 1000000 in
theorem refEncode_4 (n : Int) (w : World) (h0 : 65536 ≤ n) (h1 : n < 2097152) : Calls Tryd.prog 66 #[.int .i64 n] w fun e w' => e = .returned (.tuple #[.string (encStr n.toNat), .int .i64 0]) ∧ Below w.heap.size w w' := by
  go_enter Tryd.func66, Tryd.ntmps66
  go_wp2
  go_rounds 8
  go_loopw [0, 6, 7] (fun nv tv iv wr => ∃ j : Nat, j ≤ 3 ∧ iv = .int .i64 ((j : Int) + 1) ∧ nv = .int .i64 (n / 64 ^ j) ∧ wr.ownsRow w.heap.size 5 1 tv j ((tailL n j).map (Value.int .u8)) ∧ Below w.heap.size w wr) (fun _ _ iv _ => 5 - (intOf iv).toNat)
  case atStart => exact ⟨0, by omega, rfl, by simp, World.ownsRow_nil _ _ _ _, Below.refl _ _⟩
  case round =>
    obtain ⟨j, hj, rfl, rfl, hown, hbel⟩ := hrel
    obtain ⟨m, hm⟩ : ∃ m, n / 64 ^ j = m := ⟨_, rfl⟩
    have m0 : 0 ≤ m := by rw [← hm]; exact Int.ediv_nonneg (by omega) (Int.pow_nonneg (by decide))
    have m1 : m ≤ n := by rw [← hm]; exact Int.ediv_le_self _ (by omega)
    have hsz := hbel.size
    rw [hm]
    by_cases hlt : j < 3
    · have Hm := Lib.hid hm; clear hm
      go_wp2_with (at_builtin; refine wpList_append_1 Tryd.elemU8 rfl wr rfl _ _ rfl rfl hown _ rfl rfl (by omega) (by omega) hsz hbel ?_; intro v' w1 hown' hbel' _)
      go_roundw
      case rel => exact ⟨j + 1, by omega, by go_num, by rw [← Hm.out, div_step], by rw [tailL, List.map_append, Hm.out]; exact hown', hbel'⟩
      case measure => simp [intOf]; omega
    · obtain rfl : j = 3 := by omega
      have e64 : (64 : Int) ^ 3 = 262144 := by decide
      rw [e64] at hm
      have m2 : m < 8 := by omega
      clear e64
      have Hm := Lib.hid hm; clear hm
      obtain ⟨g, cap, rfl, hg, hgs, hc, hcm, hcell⟩ := owns_at hown (by omega)
      unfold maxLen at hcm
      go_wp2
      go_rounds 8
      obtain ⟨wo, rfl⟩ : ∃ wo : World, wo = wr := ⟨_, rfl⟩
      go_loopw [10, 11] (fun ov iv wr2 => ∃ q j : Nat, q + j = 3 ∧ iv = .int .i64 ((q : Int) - 1) ∧ wr2.ownsRow wo.heap.size 5 1 ov (j + 1) (((240 + m) :: (tailL n 3).reverse.take j).map (Value.int .u8)) ∧ Below wo.heap.size wo wr2) (fun _ iv _ => (intOf iv + 1).toNat)
      case atStart => exact ⟨3, 0, rfl, by go_num, owns_block wo [_] _ 1 rfl (by decide) _ (Nat.le_refl _), (Below.refl _ _).alloc (Nat.le_refl _) _⟩
      case round =>
        obtain ⟨q, j, hqj, rfl, hown2, hbel2⟩ := hrel
        have hsz2 := hbel2.size
        rcases q with _ | p
        · obtain rfl : j = 3 := by omega
          obtain ⟨L, hL⟩ : ∃ L, L = (240 + m) :: (tailL n 3).reverse.take 3 := ⟨_, rfl⟩
          rw [← hL] at hown2
          have hll : L.length = 4 := by rw [hL]; simp [tailL_len]
          obtain ⟨g2, cap2, rfl, hg2, hgs2, hc2, hcm2, hcell2⟩ := owns_at hown2 (by omega)
          have hconv := run_convert_bytes_arg (P := Tryd.prog) wr 51 5 Tryd.uBytes Tryd.uU8 g2 0 4 cap2 L hll (fun i hi => by rw [Nat.zero_add]; exact hcell2 i _ (map_at L _ i (by omega))) 9 Tryd.uStr
          have HL : Hid (L = (240 + m) :: (tailL n 3).reverse.take 3 ∧ L.length = 4) := ⟨hL, hll⟩
          clear hL hll hcell2 hcell
          go_wp2
          go_ret2
          refine ⟨ret_str ?_, (hbel.trans (hbel2.mono (by omega)))⟩
          have hm : n / 64 ^ 3 = m := Hm.out
          rw [show (64 : Int) ^ 3 = 262144 by decide] at hm
          rw [HL.out.1]
          unfold encStr encN
          rw [if_neg (by omega), if_neg (by omega), if_neg (by omega), if_pos (by omega)]
          exact congrArg strOfNums (by simp [tailL]; omega)
        · have ep : ((p + 1 : Nat) : Int) - 1 = p := by omega
          rw [ep]; clear ep
          have hcp : wr.cell? ⟨g, p, none⟩ = some (.int .u8 (128 + (n / 64 ^ p) % 64)) := (hbel2.cell (p := ⟨g, p, none⟩) hgs).trans (hcell p _ (by rw [List.getElem?_map, tail_at n _ p (by omega)]; rfl))
          have hjlt : j < 3 := by omega
          have Hl : Hid ((tailL n 3).reverse.take (j + 1) = (tailL n 3).reverse.take j ++ [128 + (n / 64 ^ p) % 64]) := by
            show _ = _
            rw [List.take_add_one, List.getElem?_reverse (by rw [tailL_len]; omega), tailL_len, show 3 - 1 - j = p from by omega, tail_at n _ p (by omega)]
            rfl
          clear hcell
          go_wp2_with (at_builtin; refine wpList_append_1 Tryd.elemU8 rfl wr rfl _ _ rfl rfl hown2 _ rfl rfl (by omega) (by omega) hsz2 hbel2 ?_; intro v' w1 hown' hbel' _)
          go_roundw
          case rel => first | exact ⟨p, j + 1, by omega, by go_num, by rw [Hl.out, ← List.cons_append, List.map_append]; exact hown', hbel'⟩ | ((repeat apply Exists.intro); exact ⟨⟨p, j + 1, by omega, by go_num, by rw [Hl.out, ← List.cons_append, List.map_append]; exact hown', hbel'⟩, rfl⟩)
          case measure => simp [intOf]

set_option maxHeartbeats 1000000 in
theorem refEncode_5 (n : Int) (w : World) (h0 : 2097152 ≤ n) (h1 : n < 67108864) : Calls Tryd.prog 66 #[.int .i64 n] w fun e w' => e = .returned (.tuple #[.string (encStr n.toNat), .int .i64 0]) ∧ Below w.heap.size w w' := by
  go_enter Tryd.func66, Tryd.ntmps66
  go_wp2
  go_rounds 8
  go_loopw [0, 6, 7] (fun nv tv iv wr => ∃ j : Nat, j ≤ 4 ∧ iv = .int .i64 ((j : Int) + 1) ∧ nv = .int .i64 (n / 64 ^ j) ∧ wr.ownsRow w.heap.size 5 1 tv j ((tailL n j).map (Value.int .u8)) ∧ Below w.heap.size w wr) (fun _ _ iv _ => 6 - (intOf iv).toNat)
  case atStart => exact ⟨0, by omega, rfl, by simp, World.ownsRow_nil _ _ _ _, Below.refl _ _⟩
  case round =>
    obtain ⟨j, hj, rfl, rfl, hown, hbel⟩ := hrel
    obtain ⟨m, hm⟩ : ∃ m, n / 64 ^ j = m := ⟨_, rfl⟩
    have m0 : 0 ≤ m := by rw [← hm]; exact Int.ediv_nonneg (by omega) (Int.pow_nonneg (by decide))
    have m1 : m ≤ n := by rw [← hm]; exact Int.ediv_le_self _ (by omega)
    have hsz := hbel.size
    rw [hm]
    by_cases hlt : j < 4
    · have Hm := Lib.hid hm; clear hm
      go_wp2_with (at_builtin; refine wpList_append_1 Tryd.elemU8 rfl wr rfl _ _ rfl rfl hown _ rfl rfl (by omega) (by omega) hsz hbel ?_; intro v' w1 hown' hbel' _)
      go_roundw
      case rel => exact ⟨j + 1, by omega, by go_num, by rw [← Hm.out, div_step], by rw [tailL, List.map_append, Hm.out]; exact hown', hbel'⟩
      case measure => simp [intOf]; omega
    · obtain rfl : j = 4 := by omega
      have e64 : (64 : Int) ^ 4 = 16777216 := by decide
      rw [e64] at hm
      have m2 : m < 4 := by omega
      clear e64
      have Hm := Lib.hid hm; clear hm
      obtain ⟨g, cap, rfl, hg, hgs, hc, hcm, hcell⟩ := owns_at hown (by omega)
      unfold maxLen at hcm
      go_wp2
      go_rounds 8
      obtain ⟨wo, rfl⟩ : ∃ wo : World, wo = wr := ⟨_, rfl⟩
      go_loopw [10, 11] (fun ov iv wr2 => ∃ q j : Nat, q + j = 4 ∧ iv = .int .i64 ((q : Int) - 1) ∧ wr2.ownsRow wo.heap.size 5 1 ov (j + 1) (((248 + m) :: (tailL n 4).reverse.take j).map (Value.int .u8)) ∧ Below wo.heap.size wo wr2) (fun _ iv _ => (intOf iv + 1).toNat)
      case atStart => exact ⟨4, 0, rfl, by go_num, owns_block wo [_] _ 1 rfl (by decide) _ (Nat.le_refl _), (Below.refl _ _).alloc (Nat.le_refl _) _⟩
      case round =>
        obtain ⟨q, j, hqj, rfl, hown2, hbel2⟩ := hrel
        have hsz2 := hbel2.size
        rcases q with _ | p
        · obtain rfl : j = 4 := by omega
          obtain ⟨L, hL⟩ : ∃ L, L = (248 + m) :: (tailL n 4).reverse.take 4 := ⟨_, rfl⟩
          rw [← hL] at hown2
          have hll : L.length = 5 := by rw [hL]; simp [tailL_len]
          obtain ⟨g2, cap2, rfl, hg2, hgs2, hc2, hcm2, hcell2⟩ := owns_at hown2 (by omega)
          have hconv := run_convert_bytes_arg (P := Tryd.prog) wr 51 5 Tryd.uBytes Tryd.uU8 g2 0 5 cap2 L hll (fun i hi => by rw [Nat.zero_add]; exact hcell2 i _ (map_at L _ i (by omega))) 9 Tryd.uStr
          have HL : Hid (L = (248 + m) :: (tailL n 4).reverse.take 4 ∧ L.length = 5) := ⟨hL, hll⟩
          clear hL hll hcell2 hcell
          go_wp2
          go_ret2
          refine ⟨ret_str ?_, (hbel.trans (hbel2.mono (by omega)))⟩
          have hm : n / 64 ^ 4 = m := Hm.out
          rw [show (64 : Int) ^ 4 = 16777216 by decide] at hm
          rw [HL.out.1]
          unfold encStr encN
          rw [if_neg (by omega), if_neg (by omega), if_neg (by omega), if_neg (by omega), if_pos (by omega)]
          exact congrArg strOfNums (by simp [tailL]; omega)
        · have ep : ((p + 1 : Nat) : Int) - 1 = p := by omega
          rw [ep]; clear ep
          have hcp : wr.cell? ⟨g, p, none⟩ = some (.int .u8 (128 + (n / 64 ^ p) % 64)) := (hbel2.cell (p := ⟨g, p, none⟩) hgs).trans (hcell p _ (by rw [List.getElem?_map, tail_at n _ p (by omega)]; rfl))
          have hjlt : j < 4 := by omega
          have Hl : Hid ((tailL n 4).reverse.take (j + 1) = (tailL n 4).reverse.take j ++ [128 + (n / 64 ^ p) % 64]) := by
            show _ = _
            rw [List.take_add_one, List.getElem?_reverse (by rw [tailL_len]; omega), tailL_len, show 4 - 1 - j = p from by omega, tail_at n _ p (by omega)]
            rfl
          clear hcell
          go_wp2_with (at_builtin; refine wpList_append_1 Tryd.elemU8 rfl wr rfl _ _ rfl rfl hown2 _ rfl rfl (by omega) (by omega) hsz2 hbel2 ?_; intro v' w1 hown' hbel' _)
          go_roundw
          case rel => first | exact ⟨p, j + 1, by omega, by go_num, by rw [Hl.out, ← List.cons_append, List.map_append]; exact hown', hbel'⟩ | ((repeat apply Exists.intro); exact ⟨⟨p, j + 1, by omega, by go_num, by rw [Hl.out, ← List.cons_append, List.map_append]; exact hown', hbel'⟩, rfl⟩)
          case measure => simp [intOf]

set_option maxHeartbeats 1000000 in
theorem refEncode_6 (n : Int) (w : World) (h0 : 67108864 ≤ n) (h1 : n < 2147483648) : Calls Tryd.prog 66 #[.int .i64 n] w fun e w' => e = .returned (.tuple #[.string (encStr n.toNat), .int .i64 0]) ∧ Below w.heap.size w w' := by
  go_enter Tryd.func66, Tryd.ntmps66
  go_wp2
  go_rounds 8
  go_loopw [0, 6, 7] (fun nv tv iv wr => ∃ j : Nat, j ≤ 5 ∧ iv = .int .i64 ((j : Int) + 1) ∧ nv = .int .i64 (n / 64 ^ j) ∧ wr.ownsRow w.heap.size 5 1 tv j ((tailL n j).map (Value.int .u8)) ∧ Below w.heap.size w wr) (fun _ _ iv _ => 7 - (intOf iv).toNat)
  case atStart => exact ⟨0, by omega, rfl, by simp, World.ownsRow_nil _ _ _ _, Below.refl _ _⟩
  case round =>
    obtain ⟨j, hj, rfl, rfl, hown, hbel⟩ := hrel
    obtain ⟨m, hm⟩ : ∃ m, n / 64 ^ j = m := ⟨_, rfl⟩
    have m0 : 0 ≤ m := by rw [← hm]; exact Int.ediv_nonneg (by omega) (Int.pow_nonneg (by decide))
    have m1 : m ≤ n := by rw [← hm]; exact Int.ediv_le_self _ (by omega)
    have hsz := hbel.size
    rw [hm]
    by_cases hlt : j < 5
    · have Hm := Lib.hid hm; clear hm
      go_wp2_with (at_builtin; refine wpList_append_1 Tryd.elemU8 rfl wr rfl _ _ rfl rfl hown _ rfl rfl (by omega) (by omega) hsz hbel ?_; intro v' w1 hown' hbel' _)
      go_roundw
      case rel => exact ⟨j + 1, by omega, by go_num, by rw [← Hm.out, div_step], by rw [tailL, List.map_append, Hm.out]; exact hown', hbel'⟩
      case measure => simp [intOf]; omega
    · obtain rfl : j = 5 := by omega
      have e64 : (64 : Int) ^ 5 = 1073741824 := by decide
      rw [e64] at hm
      have m2 : m < 2 := by omega
      clear e64
      have Hm := Lib.hid hm; clear hm
      obtain ⟨g, cap, rfl, hg, hgs, hc, hcm, hcell⟩ := owns_at hown (by omega)
      unfold maxLen at hcm
      go_wp2
      go_rounds 8
      obtain ⟨wo, rfl⟩ : ∃ wo : World, wo = wr := ⟨_, rfl⟩
      go_loopw [10, 11] (fun ov iv wr2 => ∃ q j : Nat, q + j = 5 ∧ iv = .int .i64 ((q : Int) - 1) ∧ wr2.ownsRow wo.heap.size 5 1 ov (j + 1) (((252 + m) :: (tailL n 5).reverse.take j).map (Value.int .u8)) ∧ Below wo.heap.size wo wr2) (fun _ iv _ => (intOf iv + 1).toNat)
      case atStart => exact ⟨5, 0, rfl, by go_num, owns_block wo [_] _ 1 rfl (by decide) _ (Nat.le_refl _), (Below.refl _ _).alloc (Nat.le_refl _) _⟩
      case round =>
        obtain ⟨q, j, hqj, rfl, hown2, hbel2⟩ := hrel
        have hsz2 := hbel2.size
        rcases q with _ | p
        · obtain rfl : j = 5 := by omega
          obtain ⟨L, hL⟩ : ∃ L, L = (252 + m) :: (tailL n 5).reverse.take 5 := ⟨_, rfl⟩
          rw [← hL] at hown2
          have hll : L.length = 6 := by rw [hL]; simp [tailL_len]
          obtain ⟨g2, cap2, rfl, hg2, hgs2, hc2, hcm2, hcell2⟩ := owns_at hown2 (by omega)
          have hconv := run_convert_bytes_arg (P := Tryd.prog) wr 51 5 Tryd.uBytes Tryd.uU8 g2 0 6 cap2 L hll (fun i hi => by rw [Nat.zero_add]; exact hcell2 i _ (map_at L _ i (by omega))) 9 Tryd.uStr
          have HL : Hid (L = (252 + m) :: (tailL n 5).reverse.take 5 ∧ L.length = 6) := ⟨hL, hll⟩
          clear hL hll hcell2 hcell
          go_wp2
          go_ret2
          refine ⟨ret_str ?_, (hbel.trans (hbel2.mono (by omega)))⟩
          have hm : n / 64 ^ 5 = m := Hm.out
          rw [show (64 : Int) ^ 5 = 1073741824 by decide] at hm
          rw [HL.out.1]
          unfold encStr encN
          rw [if_neg (by omega), if_neg (by omega), if_neg (by omega), if_neg (by omega), if_neg (by omega)]
          exact congrArg strOfNums (by simp [tailL]; omega)
        · have ep : ((p + 1 : Nat) : Int) - 1 = p := by omega
          rw [ep]; clear ep
          have hcp : wr.cell? ⟨g, p, none⟩ = some (.int .u8 (128 + (n / 64 ^ p) % 64)) := (hbel2.cell (p := ⟨g, p, none⟩) hgs).trans (hcell p _ (by rw [List.getElem?_map, tail_at n _ p (by omega)]; rfl))
          have hjlt : j < 5 := by omega
          have Hl : Hid ((tailL n 5).reverse.take (j + 1) = (tailL n 5).reverse.take j ++ [128 + (n / 64 ^ p) % 64]) := by
            show _ = _
            rw [List.take_add_one, List.getElem?_reverse (by rw [tailL_len]; omega), tailL_len, show 5 - 1 - j = p from by omega, tail_at n _ p (by omega)]
            rfl
          clear hcell
          go_wp2_with (at_builtin; refine wpList_append_1 Tryd.elemU8 rfl wr rfl _ _ rfl rfl hown2 _ rfl rfl (by omega) (by omega) hsz2 hbel2 ?_; intro v' w1 hown' hbel' _)
          go_roundw
          case rel => first | exact ⟨p, j + 1, by omega, by go_num, by rw [Hl.out, ← List.cons_append, List.map_append]; exact hown', hbel'⟩ | ((repeat apply Exists.intro); exact ⟨⟨p, j + 1, by omega, by go_num, by rw [Hl.out, ← List.cons_append, List.map_append]; exact hown', hbel'⟩, rfl⟩)
          case measure => simp [intOf]

theorem refEncode_any (n : Int) (w : World) (h0 : 0 ≤ n) (h1 : n < 2147483648) : Calls Tryd.prog 66 #[.int .i64 n] w fun e w' => e = .returned (.tuple #[.string (encStr n.toNat), .int .i64 0]) ∧ Below w.heap.size w w' := by
  by_cases a : n < 128
  · exact refEncode_1 n w h0 a
  by_cases b : n < 2048
  · exact refEncode_2 n w (by omega) b
  by_cases c : n < 65536
  · exact refEncode_3 n w (by omega) c
  by_cases d : n < 2097152
  · exact refEncode_4 n w (by omega) d
  by_cases e : n < 67108864
  · exact refEncode_5 n w (by omega) e
  exact refEncode_6 n w (by omega) h1

end Go.Proofs.YtpncjpgjmpemiaaDoor
