/- runes.Encode, as walked: the bytes of a number. -/
import Derived.Test.YtpncjpgjmpemiaaDoorProg
import Derived.Test.YtpncjpgjmpemiaaDoorRunesPlain
import Derived.WalkKit
import Derived.Lib.Hide
import Derived.Handy
import Derived.WalkSpells
namespace Go.Proofs.YtpncjpgjmpemiaaDoor
open Go.RowKit
set_option linter.unusedSimpArgs false
set_option linter.unusedVariables false

theorem two63 : (2 : Int) ^ 63 = 9223372036854775808 := by decide
theorem and63 (m : Int) (h0 : 0 ≤ m) (h1 : m ≤ 2147483647) : bits BinOp.and IntKind.i64 m 63 = m % 64 := by
  have h := bits_mask .i64 63 (by decide) (fun n h0 h1 => by rw [two63] at h1; rw [IntKind.wrap_i64]; omega) 6 (by decide) m h0 (by rw [two63]; omega)
  have e : ((2 : Int) ^ 6 - 1) = 63 := by decide
  rw [e] at h
  exact h
theorem or248 (x : Int) (h0 : 0 ≤ x) (h1 : x < 4) : bits BinOp.or IntKind.u8 248 x = 248 + x := by
  obtain rfl | rfl | rfl | rfl : x = 0 ∨ x = 1 ∨ x = 2 ∨ x = 3 := by omega
  all_goals decide
theorem or252 (x : Int) (h0 : 0 ≤ x) (h1 : x < 2) : bits BinOp.or IntKind.u8 252 x = 252 + x := by
  obtain rfl | rfl : x = 0 ∨ x = 1 := by omega
  all_goals decide

/-- a number's bytes as a text -/
def encStr (n : Nat) : ByteArray := strOfNums ((encN n).map fun x : Nat => (x : Int))
theorem encStr_data (n : Nat) : (encStr n).data.toList = encU n := by
  rw [encStr, strOfNums_data, encU, List.map_map]
  rfl
theorem encStr_size (n : Nat) : (encStr n).size = (encN n).length := by rw [encStr, strOfNums_size, List.length_map]
theorem ret_str {a b : ByteArray} {v : Value} (h : a = b) : Ending.returned (.tuple #[.string a, v]) = .returned (.tuple #[.string b, v]) := by rw [h]

theorem Tryd.infoU8 : (Tryd.prog.info? 5).map (fun i => (i.zero, i.size, i.bytes)) = some (some (.int .u8 0), 1, 1) := by kernel_rfl
theorem Tryd.uBytes : Tryd.prog.underlying 51 = some (.slice 5) := by kernel_rfl
theorem Tryd.uU8 : Tryd.prog.underlying 5 = some (.int .u8) := by kernel_rfl
theorem Tryd.uStr : Tryd.prog.underlying 9 = some .string := by kernel_rfl

/-- a []byte of the last block as a text -/
theorem conv_last (W : World) (xs : List Int) (k : Nat) (hk : xs.length = k) : (convert 51 9 (.slice (some ⟨W.heap.size, 0, none⟩) k k)).run Tryd.prog (W.alloc (.cells (xs.map (Value.int .u8)).toArray 5)) =
    .ok (.string (strOfNums xs)) (W.alloc (.cells (xs.map (Value.int .u8)).toArray 5)) := by
  refine run_convert_bytes_arg _ _ _ Tryd.uBytes Tryd.uU8 _ 0 k k xs hk (fun i hi => ?_) _ Tryd.uStr
  rw [Nat.zero_add, cell_of_row _ _ i _ _ (0, 0) (heap_alloc_new W _)]
  have : i < xs.length := by omega
  simp [List.getD, this]

set_option maxHeartbeats 400000 in
theorem encode_bad (n : Int) (w : World) (h : n < 0 ∨ 2147483648 ≤ n) : Calls Tryd.prog 59 #[.int .i64 n] w fun e w' => e = .returned (.tuple #[.string .empty, .int .i64 10]) ∧ w = w' := by
  rcases h with h | h
  · go_enter Tryd.func59, Tryd.ntmps59
    go_wp2
    go_ret2
    exact ⟨rfl, rfl⟩
  · have h0 : ¬ n < 0 := by omega
    go_enter Tryd.func59, Tryd.ntmps59
    go_wp2
    go_ret2
    exact ⟨rfl, rfl⟩

set_option maxHeartbeats 400000 in
theorem encode_1 (n : Int) (w : World) (h0 : 0 ≤ n) (h1 : n < 128) : Calls Tryd.prog 59 #[.int .i64 n] w fun e w' => e = .returned (.tuple #[.string (encStr n.toNat), .int .i64 0]) ∧ Below w.heap.size w w' := by
  have hc := fun W x => conv_last W [x] 1 rfl
  simp only [List.map_cons, List.map_nil] at hc
  go_enter Tryd.func59, Tryd.ntmps59
  go_wp2
  go_ret2
  refine ⟨ret_str ?_, by go_grown⟩
  unfold encStr encN
  rw [if_pos (by omega)]
  exact congrArg strOfNums (by simp; omega)


set_option maxHeartbeats 1000000 in
theorem encode_2 (n : Int) (w : World) (h0 : 128 ≤ n) (h1 : n < 2048) : Calls Tryd.prog 59 #[.int .i64 n] w fun e w' => e = .returned (.tuple #[.string (encStr n.toNat), .int .i64 0]) ∧ Below w.heap.size w w' := by
  have hc := fun W x0 x1 => conv_last W [x0, x1] 2 rfl
  simp only [List.map_cons, List.map_nil] at hc
  have hmk : ∀ W : World, (Instr.makeSlice 51 (.int .i64 2) (.int .i64 2)).run Tryd.prog W = .ok (.slice (some ⟨W.heap.size, 0, none⟩) 2 2) (W.alloc (.cells #[.int .u8 0, .int .u8 0] 5)) := fun _ => by kernel_rfl
  have a0 := and63 (n) (by omega) (by omega)
  go_enter Tryd.func59, Tryd.ntmps59
  go_wp2
  go_rounds 8
  go_rounds 8
  go_ret2
  refine ⟨ret_str ?_, by go_grown⟩
  unfold encStr encN
  rw [if_neg (by omega), if_pos (by omega)]
  exact congrArg strOfNums (by simp; omega)

set_option maxHeartbeats 1000000 in
theorem encode_3 (n : Int) (w : World) (h0 : 2048 ≤ n) (h1 : n < 65536) : Calls Tryd.prog 59 #[.int .i64 n] w fun e w' => e = .returned (.tuple #[.string (encStr n.toNat), .int .i64 0]) ∧ Below w.heap.size w w' := by
  have hc := fun W x0 x1 x2 => conv_last W [x0, x1, x2] 3 rfl
  simp only [List.map_cons, List.map_nil] at hc
  have hmk : ∀ W : World, (Instr.makeSlice 51 (.int .i64 3) (.int .i64 3)).run Tryd.prog W = .ok (.slice (some ⟨W.heap.size, 0, none⟩) 3 3) (W.alloc (.cells #[.int .u8 0, .int .u8 0, .int .u8 0] 5)) := fun _ => by kernel_rfl
  have a0 := and63 (n) (by omega) (by omega)
  have a1 := and63 (n / 64) (by omega) (by omega)
  go_enter Tryd.func59, Tryd.ntmps59
  go_wp2
  go_rounds 8
  go_rounds 8
  go_ret2
  refine ⟨ret_str ?_, by go_grown⟩
  unfold encStr encN
  rw [if_neg (by omega), if_neg (by omega), if_pos (by omega)]
  exact congrArg strOfNums (by simp; omega)

set_option maxHeartbeats 1000000 in
theorem encode_4 (n : Int) (w : World) (h0 : 65536 ≤ n) (h1 : n < 2097152) : Calls Tryd.prog 59 #[.int .i64 n] w fun e w' => e = .returned (.tuple #[.string (encStr n.toNat), .int .i64 0]) ∧ Below w.heap.size w w' := by
  have hc := fun W x0 x1 x2 x3 => conv_last W [x0, x1, x2, x3] 4 rfl
  simp only [List.map_cons, List.map_nil] at hc
  have hmk : ∀ W : World, (Instr.makeSlice 51 (.int .i64 4) (.int .i64 4)).run Tryd.prog W = .ok (.slice (some ⟨W.heap.size, 0, none⟩) 4 4) (W.alloc (.cells #[.int .u8 0, .int .u8 0, .int .u8 0, .int .u8 0] 5)) := fun _ => by kernel_rfl
  have a0 := and63 (n) (by omega) (by omega)
  have a1 := and63 (n / 64) (by omega) (by omega)
  have a2 := and63 (n / 64 / 64) (by omega) (by omega)
  go_enter Tryd.func59, Tryd.ntmps59
  go_wp2
  go_rounds 8
  go_rounds 8
  go_ret2
  refine ⟨ret_str ?_, by go_grown⟩
  unfold encStr encN
  rw [if_neg (by omega), if_neg (by omega), if_neg (by omega), if_pos (by omega)]
  exact congrArg strOfNums (by simp; omega)

set_option maxHeartbeats 1000000 in
theorem encode_5 (n : Int) (w : World) (h0 : 2097152 ≤ n) (h1 : n < 67108864) : Calls Tryd.prog 59 #[.int .i64 n] w fun e w' => e = .returned (.tuple #[.string (encStr n.toNat), .int .i64 0]) ∧ Below w.heap.size w w' := by
  have hc := fun W x0 x1 x2 x3 x4 => conv_last W [x0, x1, x2, x3, x4] 5 rfl
  simp only [List.map_cons, List.map_nil] at hc
  have hmk : ∀ W : World, (Instr.makeSlice 51 (.int .i64 5) (.int .i64 5)).run Tryd.prog W = .ok (.slice (some ⟨W.heap.size, 0, none⟩) 5 5) (W.alloc (.cells #[.int .u8 0, .int .u8 0, .int .u8 0, .int .u8 0, .int .u8 0] 5)) := fun _ => by kernel_rfl
  have a0 := and63 (n) (by omega) (by omega)
  have a1 := and63 (n / 64) (by omega) (by omega)
  have a2 := and63 (n / 64 / 64) (by omega) (by omega)
  have a3 := and63 (n / 64 / 64 / 64) (by omega) (by omega)
  have o := or248 (n / 64 / 64 / 64 / 64) (by omega) (by omega)
  go_enter Tryd.func59, Tryd.ntmps59
  go_wp2
  go_rounds 8
  go_rounds 8
  go_ret2
  refine ⟨ret_str ?_, by go_grown⟩
  unfold encStr encN
  rw [if_neg (by omega), if_neg (by omega), if_neg (by omega), if_neg (by omega), if_pos (by omega)]
  exact congrArg strOfNums (by simp; omega)

set_option maxHeartbeats 1000000 in
theorem encode_6 (n : Int) (w : World) (h0 : 67108864 ≤ n) (h1 : n < 2147483648) : Calls Tryd.prog 59 #[.int .i64 n] w fun e w' => e = .returned (.tuple #[.string (encStr n.toNat), .int .i64 0]) ∧ Below w.heap.size w w' := by
  have hc := fun W x0 x1 x2 x3 x4 x5 => conv_last W [x0, x1, x2, x3, x4, x5] 6 rfl
  simp only [List.map_cons, List.map_nil] at hc
  have hmk : ∀ W : World, (Instr.makeSlice 51 (.int .i64 6) (.int .i64 6)).run Tryd.prog W = .ok (.slice (some ⟨W.heap.size, 0, none⟩) 6 6) (W.alloc (.cells #[.int .u8 0, .int .u8 0, .int .u8 0, .int .u8 0, .int .u8 0, .int .u8 0] 5)) := fun _ => by kernel_rfl
  have a0 := and63 (n) (by omega) (by omega)
  have a1 := and63 (n / 64) (by omega) (by omega)
  have a2 := and63 (n / 64 / 64) (by omega) (by omega)
  have a3 := and63 (n / 64 / 64 / 64) (by omega) (by omega)
  have a4 := and63 (n / 64 / 64 / 64 / 64) (by omega) (by omega)
  have o := or252 (n / 64 / 64 / 64 / 64 / 64) (by omega) (by omega)
  go_enter Tryd.func59, Tryd.ntmps59
  go_wp2
  go_rounds 8
  go_rounds 8
  go_ret2
  refine ⟨ret_str ?_, by go_grown⟩
  unfold encStr encN
  rw [if_neg (by omega), if_neg (by omega), if_neg (by omega), if_neg (by omega), if_neg (by omega)]
  exact congrArg strOfNums (by simp; omega)

theorem encode_any (n : Int) (w : World) (h0 : 0 ≤ n) (h1 : n < 2147483648) : Calls Tryd.prog 59 #[.int .i64 n] w fun e w' => e = .returned (.tuple #[.string (encStr n.toNat), .int .i64 0]) ∧ Below w.heap.size w w' := by
  by_cases a : n < 128
  · exact encode_1 n w h0 a
  by_cases b : n < 2048
  · exact encode_2 n w (by omega) b
  by_cases c : n < 65536
  · exact encode_3 n w (by omega) c
  by_cases d : n < 2097152
  · exact encode_4 n w (by omega) d
  by_cases e : n < 67108864
  · exact encode_5 n w (by omega) e
  exact encode_6 n w (by omega) h1

end Go.Proofs.YtpncjpgjmpemiaaDoor
