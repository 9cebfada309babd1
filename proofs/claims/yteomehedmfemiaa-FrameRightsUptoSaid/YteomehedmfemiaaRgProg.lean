/- Frame: the law's program, of any shape. -/
import Derived.Test.YteomehedmfemiaaRgPIn
import Derived.Test.YteomehedmfemiaaRgAdj3
set_option linter.unusedSimpArgs false
set_option linter.unusedVariables false
set_option maxRecDepth 100000
namespace Go.Proofs.Yteomehedmfemiaa
open Go.RowKit
def pickI (x n : Int) : Int := if x.tmod n < 0 then x.tmod n + n else x.tmod n
theorem pickI_in (x : Int) {n : Int} (hn : 0 < n) : 0 ≤ pickI x n ∧ pickI x n < n := by
  unfold pickI
  have h1 := Int.tmod_lt_of_pos x hn
  have h2 : -n < x.tmod n := by
    have := Int.tmod_lt_of_pos (-x) hn
    rw [Int.neg_tmod] at this; omega
  split <;> omega
section
variable {O : Helps} {n : Nat} {o : Tr AObj} {nx : Nat} {lg : List Nat}
theorem pick_ok (hO : Clear O) (x k : Int) (hk : 0 < k) (hk2 : k < 1000000000) :
    oCall Try.prog [] O (n + 1) 19 [.int .i64 x, .int .i64 k] ⟨o, nx, lg⟩ = some (.int .i64 (pickI x k), ⟨o, nx, lg⟩) := by
  refine of_got ?_
  rw [y_fn (rs := [.tmp 4]) (hO _ (by decide)) Try.func19 rfl (by kernel_rfl) rfl rfl]
  have k1 : decide (k < 1) = false := decide_eq_false (by omega)
  have k0 : k ≠ 0 := by omega
  have h1 := Int.tmod_lt_of_pos x hk
  have h2 : -k < x.tmod k := by
    have := Int.tmod_lt_of_pos (-x) hk
    rw [Int.neg_tmod] at this; omega
  unfold pickI
  by_cases h : x.tmod k < 0
  · have hw : IntKind.i64.wrap (x.tmod k + k) = x.tmod k + k := IntWalk.i64_in _ (by omega)
    simp (maxDischargeDepth := 6) only [sy3.1, zY, qG, qP, qQ, qR, qS, qT, rowAt, ↓jg, ↓ji, Nat.reduceAdd, Nat.reduceEqDiff, ne_eq, jG, Nat.reduceLT, if_true, ite_true, Int.reduceLE, Int.reduceLT, Int.reduceEq, Int.reduceNeg, Int.reduceAdd, Nat.reduceSub, if_false, ite_false, id, k1, b_rem k0, decide_eq_true h, hw]
    simp only [h, if_true]
    try exact Ja (by rfl) (by rfl)
  · simp (maxDischargeDepth := 6) only [sy3.1, zY, qG, qP, qQ, qR, qS, qT, rowAt, ↓jg, ↓ji, Nat.reduceAdd, Nat.reduceEqDiff, ne_eq, jG, Nat.reduceLT, if_true, ite_true, Int.reduceLE, Int.reduceLT, Int.reduceEq, Int.reduceNeg, Int.reduceAdd, Nat.reduceSub, if_false, ite_false, id, k1, b_rem k0, decide_eq_false h]
    simp only [h, if_false]
    try exact Ja (by rfl) (by rfl)
theorem num_ok (hO : Clear O) (x : Int) : oCall Try.prog [] O (n + 1) 11 [.int .i64 x] ⟨o, nx, lg⟩ = some (vv (3, x), ⟨o, nx, lg⟩) := by
  refine of_got ?_
  rw [y_fn (rs := [.cell 2 41]) (hO _ (by decide)) Try.func11 rfl (by kernel_rfl) rfl rfl]
  repeat (first | with_reducible (first | refine n_on ?_ | refine n_seq ?_ | refine s_else ?_ | refine n_t ?_ | refine n_gt ?_ | refine d_t ?_ | refine n_nil ?_ | refine d_nil ?_ | refine n_block ?_ | refine n_skip ?_ | refine n_bon ?_ | refine n_bback ?_ | refine n_back ?_ | refine n_out ?_ | refine n_bout rfl ?_ | refine n_bfar rfl ?_ | refine n_ret ?_ | refine n_exit ?_ | refine n_label ?_ | refine n_scope ?_ | refine n_son ?_ | refine n_sback ?_) | (with_reducible (first | apply n_region | apply d_region); (simp only [JV, JU, JW, Nat.reduceAdd, Nat.zero_add]; exact rfl)) | (with_reducible (first | apply s_op | apply n_guard | apply n_cond | apply d_guard | apply d_op | apply n_fin | apply n_finb); (simp (maxDischargeDepth := 6) only [sy3.1, zY, qG, qP, qQ, qR, qS, qT, rowAt, ↓jg, ↓ji, Nat.reduceAdd, Nat.reduceEqDiff, ne_eq, jG, Nat.reduceLT, if_true, ite_true, Int.reduceLE, Int.reduceLT, Int.reduceEq, Int.reduceNeg, Int.reduceAdd, Nat.reduceSub, if_false, ite_false, fs_11.1, vv, kind_pure, kind_load, kind_fresh, kind_other, jg, ji, undef]; first | exact rfl | exact ⟨rfl, rfl, rfl, rfl⟩); try (with_reducible refine calmK_in ?_; decide +kernel)))
  try exact Ja (by simp only [all_relogL, js, ju, List.all_nil, jt, Bool.and_self]) (by rfl)
end
theorem build_stmt : ∀ (c : Int) fid H, buildSliceV Try.prog 60 1 [(0, .agg #[.int .u8 10, .slice none 0 0, .slice none 0 0, .slice none 0 0, .int .i64 c, .int .i64 0, .int .i64 0])] fid H = some (.slice (some ⟨fid, 0, none⟩) 1 2, newRowA fid [.int .u8 10, .slice none 0 0, .slice none 0 0, .slice none 0 0, .int .i64 c, .int .i64 0, .int .i64 0] 59 7 H) := fun c fid H => by kernel_rfl
theorem build_bit : ∀ (c : Bool) fid H, buildSliceV Try.prog 61 1 [(0, .bool c)] fid H = some (.slice (some ⟨fid, 0, none⟩) 1 2, newRowA fid [.bool c] 4 1 H) := fun c fid H => by kernel_rfl
theorem app_bb : appOf Try.prog 61 61 = some (4, 1, 1) := by kernel_rfl
theorem cut_eight (a b c d e f g h : Value) : cut [a, b, c, d, e, f, g, h] 0 8 = some [a, b, c, d, e, f, g, h] := rfl
def bitB (b : Int) (k : Nat) : Bool := decide (IntKind.i64.wrap (Int.ofNat (BitVec.ofInt IntKind.i64.bits (b.fdiv (2 ^ min k IntKind.i64.bits)) &&& BitVec.ofInt IntKind.i64.bits 1).toNat) = 1)
theorem bapp_nil {c : Bool} : ∀ (o : Tr AObj) (nx : Nat) (lg : List Nat) (fid q : Nat), o.get q = some (.row [.bool c] 4 1 true) →
    aAppend Try.prog 61 61 (.slice none 0 0) (.slice (some ⟨q, 0, none⟩) 1 2) fid ⟨o, nx, lg⟩ = some (.slice (some ⟨fid, 0, none⟩) 1 0, ⟨o.put fid (some (.row [.bool c] 4 1 true)), nx, lg⟩) := by
  intro o nx lg fid q hq
  have hadd : addCells 1 (.slice (some ⟨q, 0, none⟩) 1 2) ⟨o, nx, lg⟩ = some (0 + 1, [.bool c]) := by
    simp only [addCells, qH, hq]; rfl
  rw [app_none app_bb hadd rfl]; rfl
theorem bapp_row {c : Bool} {bx : List Bool} {k : Nat} (hk : bx.length = k) (hl : k < 1000) : ∀ (o : Tr AObj) (nx : Nat) (lg : List Nat) (fid q j : Nat), o.get q = some (.row [.bool c] 4 1 true) → o.get j = some (.row (bx.map .bool) 4 1 true) →
    aAppend Try.prog 61 61 (.slice (some ⟨j, 0, none⟩) k 0) (.slice (some ⟨q, 0, none⟩) 1 2) fid ⟨o, nx, lg⟩ = some (.slice (some ⟨fid, 0, none⟩) (k + 1) 0, ⟨(o.put j none).put fid (some (.row (bx.map .bool ++ [.bool c]) 4 1 true)), nx, noteId j lg⟩) := by
  intro o nx lg fid q j hq hj
  have hadd : addCells 1 (.slice (some ⟨q, 0, none⟩) 1 2) ⟨o, nx, lg⟩ = some (0 + 1, [.bool c]) := by
    simp only [addCells, qH, hq]; rfl
  have hr : roomOk (k + (0 + 1)) 1 = true := by unfold roomOk; rw [Bool.and_eq_true, Nat.ble_eq, Nat.ble_eq]; omega
  rw [app_row app_bb hadd hj (show cut (bx.map Value.bool) 0 (k * 1) = some (bx.map .bool) from cut_in (by rw [List.length_map]; omega) [] [] rfl (by simp)) hr (by simp [oneV])]; rfl
abbrev slA (a : Option Nat) : Option Addr := a.map fun j => ⟨j, 0, none⟩
/-- the boxed slice after k rounds -/
def BoxAt (o : Tr AObj) (nx lo : Nat) (a : Option Nat) (bx : List Bool) : Prop := (a = none ∧ bx = []) ∨ ∃ j, a = some j ∧ lo ≤ j ∧ j < nx ∧ o.get j = some (.row (bx.map .bool) 4 1 true)
theorem build_protosR : ∀ (pr s : Int) (mo : Bool) (ab : Option Addr) (nb cb : Nat) (ups : Value) (ks : Nat) fid H, (∃ au nu cu, ups = .slice au nu cu) → buildSliceV Try.prog 31 2 [(0, .agg #[.int .i64 pr, .bool mo, .int .i64 s, .slice ab nb cb, .slice none 0 0, .slice (some ⟨ks, 0, none⟩) 1 2, .slice none 0 0, .int .i64 0]), (1, .agg #[.int .i64 0, .bool false, .int .i64 0, .slice none 0 0, ups, .slice (some ⟨ks, 0, none⟩) 1 2, .slice none 0 0, .int .i64 0])] fid H = some (.slice (some ⟨fid, 0, none⟩) 2 3, newRowA fid [.int .i64 pr, .bool mo, .int .i64 s, .slice ab nb cb, .slice none 0 0, .slice (some ⟨ks, 0, none⟩) 1 2, .slice none 0 0, .int .i64 0, .int .i64 0, .bool false, .int .i64 0, .slice none 0 0, ups, .slice (some ⟨ks, 0, none⟩) 1 2, .slice none 0 0, .int .i64 0] 65 8 H) := by
  rintro pr s mo ab nb cb ups ks fid H ⟨au, nu, cu, rfl⟩
  kernel_rfl
theorem build_up1 : ∀ (k : Int) fid H, buildSliceV Try.prog 62 1 [(0, .agg #[.bool true, .int .i64 k])] fid H = some (.slice (some ⟨fid, 0, none⟩) 1 2, newRowA fid [.bool true, .int .i64 k] 67 2 H) := fun k fid H => by kernel_rfl
theorem build_up0 : ∀ (k : Int) fid H, buildSliceV Try.prog 62 1 [(0, .agg #[.bool false, .int .i64 k])] fid H = some (.slice (some ⟨fid, 0, none⟩) 1 2, newRowA fid [.bool false, .int .i64 k] 67 2 H) := fun k fid H => by kernel_rfl
theorem app_up : appOf Try.prog 62 62 = some (67, 2, 16) := by kernel_rfl
theorem uapp_nil (b : Bool) (k : Int) : ∀ (o : Tr AObj) (nx : Nat) (lg : List Nat) (fid q : Nat), o.get q = some (.row [.bool b, .int .i64 k] 67 2 true) →
    aAppend Try.prog 62 62 (.slice none 0 0) (.slice (some ⟨q, 0, none⟩) 1 2) fid ⟨o, nx, lg⟩ = some (.slice (some ⟨fid, 0, none⟩) 1 0, ⟨o.put fid (some (.row [.bool b, .int .i64 k] 67 2 true)), nx, lg⟩) := by
  intro o nx lg fid q hq
  have hadd : addCells 2 (.slice (some ⟨q, 0, none⟩) 1 2) ⟨o, nx, lg⟩ = some (0 + 1, [.bool b, .int .i64 k]) := by
    simp only [addCells, qH, hq]; rfl
  rw [app_none app_up hadd rfl]; rfl
theorem uapp_row {m : Nat} {cells : List Value} (hc : cells.length = m * 2) (hm : m ≤ 4) (b : Bool) (k : Int) : ∀ (o : Tr AObj) (nx : Nat) (lg : List Nat) (fid q j : Nat), o.get q = some (.row [.bool b, .int .i64 k] 67 2 true) → o.get j = some (.row cells 67 2 true) →
    aAppend Try.prog 62 62 (.slice (some ⟨j, 0, none⟩) m 0) (.slice (some ⟨q, 0, none⟩) 1 2) fid ⟨o, nx, lg⟩ = some (.slice (some ⟨fid, 0, none⟩) (m + 1) 0, ⟨(o.put j none).put fid (some (.row (cells ++ [.bool b, .int .i64 k]) 67 2 true)), nx, noteId j lg⟩) := by
  intro o nx lg fid q j hq hj
  have hadd : addCells 2 (.slice (some ⟨q, 0, none⟩) 1 2) ⟨o, nx, lg⟩ = some (0 + 1, [.bool b, .int .i64 k]) := by
    simp only [addCells, qH, hq]; rfl
  have hr : roomOk (m + (0 + 1)) 16 = true := by unfold roomOk; rw [Bool.and_eq_true, Nat.ble_eq, Nat.ble_eq]; omega
  have hcut : cut cells 0 (m * 2) = some cells := by
    unfold cut
    rw [List.drop_zero, ← hc, List.take_length]
    simp only [Nat.beq_refl, cond]
  rw [app_row app_up hadd hj hcut hr rfl]; rfl
/-- a slice of numbers -/
def SlI (o : Tr AObj) (nx : Nat) (v : Value) (l : List Int) : Prop := (v = .slice none 0 0 ∧ l = []) ∨ ∃ j off c et es w cells, v = .slice (some ⟨j, off, none⟩) l.length c ∧ j < nx ∧ o.get j = some (.row cells et es w) ∧ ∀ k (h : k < l.length), cells[off + k]? = some (.int .i64 l[k])
theorem SlI.slice {o : Tr AObj} {nx : Nat} {v : Value} {l : List Int} (h : SlI o nx v l) : ∃ a c, v = .slice a l.length c := by
  rcases h with ⟨rfl, rfl⟩ | ⟨j, off, c, et, es, w, cells, rfl, _⟩
  · exact ⟨_, _, rfl⟩
  · exact ⟨_, _, rfl⟩
theorem SlI.at {o : Tr AObj} {nx : Nat} {a : Option Addr} {c : Nat} {l : List Int} (h : SlI o nx (.slice a l.length c) l) {k : Nat} (hk : k < l.length) : ∃ j off cells et es w, a = some ⟨j, off, none⟩ ∧ j < nx ∧ o.get j = some (.row cells et es w) ∧ cells[off + k]? = some (.int .i64 l[k]) := by
  rcases h with ⟨_, rfl⟩ | ⟨j, off, c', et, es, w, cells, h1, h2, h3, h4⟩
  · simp at hk
  · cases h1
    exact ⟨j, off, cells, et, es, w, rfl, h2, h3, h4 k hk⟩
/-- the list of cells after k rounds -/
def UpsAt (o : Tr AObj) (nx lo : Nat) (u : Value) (k : Nat) : Prop := (u = .slice none 0 0 ∧ k = 0) ∨ ∃ j cells, u = .slice (some ⟨j, 0, none⟩) k 0 ∧ lo ≤ j ∧ j < nx ∧ o.get j = some (.row cells 67 2 true) ∧ cells.length = k * 2
theorem UpsAt.slice {o : Tr AObj} {nx lo : Nat} {u : Value} {k : Nat} (h : UpsAt o nx lo u k) : ∃ a n c, u = .slice a n c := by
  rcases h with ⟨rfl, _⟩ | ⟨j, cells, rfl, _⟩ <;> exact ⟨_, _, _, rfl⟩
section
variable {O : Helps} {n : Nat} {o : Tr AObj} {nx : Nat} {lg : List Nat}
set_option maxHeartbeats 32000000 in
theorem rprog_ok (hO : Clear O) (pa sl b : Int) (mo : Bool) {uv : Value} {ul : List Int} (hu : SlI o nx uv ul) (hub : ul.length ≤ 1048576) : Got (oCall Try.prog [] O (n + 1000) 4 [.agg #[.int .i64 pa, .int .i64 sl, .int .i64 b, .bool mo, uv]] ⟨o, nx, lg⟩) fun r => ∃ kp S o' nx', r = (pV kp, ⟨o', nx', lg⟩) ∧ nx ≤ nx' ∧ (∀ x, x < nx → o'.get x = o.get x) ∧ nx ≤ kp ∧ PIn o' nx' kp S := by
  obtain ⟨au, cu, rfl⟩ := hu.slice
  obtain ⟨S, hS, hS6⟩ : ∃ S : Nat, pickI sl 7 = Int.ofNat S ∧ S ≤ 6 := by
    obtain ⟨h1, h2⟩ := pickI_in sl (n := 7) (by decide)
    exact ⟨(pickI sl 7).toNat, by simp only [Int.ofNat_eq_natCast]; omega, by omega⟩
  obtain ⟨pr, hpr⟩ : ∃ pr, pickI pa (Int.ofNat S + 2) = pr := ⟨_, rfl⟩
  have hP1 := fun (o : Tr AObj) (nx : Nat) (lg : List Nat) => pick_ok (n := n + 998) (o := o) (nx := nx) (lg := lg) hO sl 7 (by decide) (by decide)
  rw [hS] at hP1
  have w2 : IntKind.i64.wrap (Int.ofNat S + 2) = Int.ofNat S + 2 := IntWalk.i64_in _ (by simp only [Int.ofNat_eq_natCast]; omega)
  have hP2 := fun (o : Tr AObj) (nx : Nat) (lg : List Nat) => pick_ok (n := n + 998) (o := o) (nx := nx) (lg := lg) hO pa (Int.ofNat S + 2) (by simp only [Int.ofNat_eq_natCast]; omega) (by simp only [Int.ofNat_eq_natCast]; omega)
  rw [hpr] at hP2
  rw [y_fn (rs := [.cell 2 33]) (hO _ (by decide)) Try.func4 rfl (by kernel_rfl) rfl rfl]
  repeat (first | with_reducible (first | refine n_on ?_ | refine n_seq ?_ | refine s_else ?_ | refine n_t ?_ | refine n_gt ?_ | refine d_t ?_ | refine n_nil ?_ | refine d_nil ?_ | refine n_block ?_ | refine n_skip ?_ | refine n_bon ?_ | refine n_bback ?_ | refine n_back ?_ | refine n_out ?_ | refine n_bout rfl ?_ | refine n_bfar rfl ?_ | refine n_ret ?_ | refine n_exit ?_ | refine n_label ?_ | refine n_scope ?_ | refine n_son ?_ | refine n_sback ?_) | (with_reducible (first | apply n_region | apply d_region); (simp only [JV, JU, JW, Nat.reduceAdd, Nat.zero_add]; exact rfl)) | (with_reducible (first | apply s_op | apply n_guard | apply n_cond | apply d_guard | apply d_op | apply n_fin | apply n_finb); (simp (maxDischargeDepth := 6) only [sy3.1, zY, qG, qP, qQ, qR, qS, qT, rowAt, ↓jg, ↓ji, Nat.reduceAdd, Nat.reduceEqDiff, ne_eq, jG, Nat.reduceLT, if_true, ite_true, Int.reduceLE, Int.reduceLT, Int.reduceEq, Int.reduceNeg, Int.reduceAdd, Nat.reduceSub, if_false, ite_false, fs_4.1, hP1, hP2, w2, st_buildSliceV, build_stmt, kind_pure, kind_load, kind_fresh, kind_other, jg, ji, undef]; first | exact rfl | exact ⟨rfl, rfl, rfl, rfl⟩); try (with_reducible refine calmK_in ?_; decide +kernel)))
  refine loop_cutR (i := 0) (I := fun e H => ∃ o' nx' lg' a bx, H = (⟨o', nx', lg'⟩ : AHeap) ∧ nx + 18 ≤ nx' ∧ lg'.all (fun i => Nat.ble nx i) = true ∧ (∀ x, x < nx → o'.get x = o.get x) ∧ bx.length = S ∧ BoxAt o' nx' (nx + 18) a bx ∧ o'.get nx = some (.row [.int .i64 pa, .int .i64 sl, .int .i64 b, .bool mo, .slice au ul.length cu] 24 0 true) ∧ o'.get (nx + 1) = some (.row [.slice none 0 0, .slice none 0 0] 33 0 true) ∧ o'.get (nx + 17) = some (.row [.int .i64 pr, .bool mo, .int .i64 (.ofNat S), .slice (slA a) S 0, .slice none 0 0, .slice (some ⟨nx + 15, 0, none⟩) 1 2, .slice none 0 0, .int .i64 0] 65 0 true) ∧ e.get 1 = some (.pointer (some ⟨nx, 0, none⟩)) ∧ e.get 2 = some (.pointer (some ⟨nx + 1, 0, none⟩)) ∧ e.get 3 = some (.int .i64 (.ofNat S)) ∧ e.get 4 = some (.pointer (some ⟨nx + 17, 0, none⟩))) ?_ ?_
  · rw [y_loop_eq]
    refine y_loop (I := fun q e H => ∃ k o' nx' lg' a bx, k + q = S ∧ H = (⟨o', nx', lg'⟩ : AHeap) ∧ nx + 18 ≤ nx' ∧ lg'.all (fun i => Nat.ble nx i) = true ∧ (∀ x, x < nx → o'.get x = o.get x) ∧ bx.length = k ∧ BoxAt o' nx' (nx + 18) a bx ∧ o'.get nx = some (.row [.int .i64 pa, .int .i64 sl, .int .i64 b, .bool mo, .slice au ul.length cu] 24 0 true) ∧ o'.get (nx + 1) = some (.row [.slice none 0 0, .slice none 0 0] 33 0 true) ∧ o'.get (nx + 17) = some (.row [.int .i64 pr, .bool mo, .int .i64 (.ofNat S), .slice (slA a) k 0, .slice none 0 0, .slice (some ⟨nx + 15, 0, none⟩) 1 2, .slice none 0 0, .int .i64 0] 65 0 true) ∧ e.get 1 = some (.pointer (some ⟨nx, 0, none⟩)) ∧ e.get 2 = some (.pointer (some ⟨nx + 1, 0, none⟩)) ∧ e.get 3 = some (.int .i64 (.ofNat S)) ∧ e.get 4 = some (.pointer (some ⟨nx + 17, 0, none⟩)) ∧ e.get 5 = some (.int .i64 (.ofNat k))) ?_ S _ _ _ ?_ (by omega)
    · rintro q e H ⟨k, o', nx', lg', a, bx, hk, rfl, hnx, hlg, hold, hbl, hbox, r0, r1, r17, g1, g2, g3, g4, g5⟩
      have hb0 : decide (IntKind.i64.wrap (Int.ofNat (BitVec.ofInt IntKind.i64.bits (b.fdiv (2 ^ min 0 IntKind.i64.bits)) &&& BitVec.ofInt IntKind.i64.bits 1).toNat) = 1) = bitB b 0 := rfl
      have hbk : decide (IntKind.i64.wrap (Int.ofNat (BitVec.ofInt IntKind.i64.bits (b.fdiv (2 ^ min k IntKind.i64.bits)) &&& BitVec.ofInt IntKind.i64.bits 1).toNat) = 1) = bitB b k := rfl
      have hn0 : nx < nx' := by omega
      have hn1 : nx + 1 < nx' := by omega
      have hn17 : nx + 17 < nx' := by omega
      by_cases hlt : k < S
      · have hw := wrap_next k (by omega)
        have hk0 : 0 ≤ Int.ofNat k := Int.natCast_nonneg k
        have d5 : decide (k < S) = true := decide_eq_true hlt
        rcases hbox with ⟨rfl, rfl⟩ | ⟨j, rfl, hj1, hj2, hjr⟩
        · have hk00 : k = 0 := by simpa using hbl.symm
          subst hk00
          repeat (first | with_reducible (first | refine n_on ?_ | refine n_seq ?_ | refine s_else ?_ | refine n_t ?_ | refine n_gt ?_ | refine d_t ?_ | refine n_nil ?_ | refine d_nil ?_ | refine n_block ?_ | refine n_skip ?_ | refine n_bon ?_ | refine n_bback ?_ | refine n_back ?_ | refine n_out ?_ | refine n_bout rfl ?_ | refine n_bfar rfl ?_ | refine n_ret ?_ | refine n_exit ?_ | refine n_label ?_ | refine n_scope ?_ | refine n_son ?_ | refine n_sback ?_) | (with_reducible (first | apply n_region | apply d_region); (simp only [JV, JU, JW, Nat.reduceAdd, Nat.zero_add]; exact rfl)) | (with_reducible (first | apply s_op | apply n_guard | apply n_cond | apply d_guard | apply d_op | apply n_fin | apply n_finb); (simp (maxDischargeDepth := 6) only [sy3.1, zY, qG, qP, qQ, qR, qS, qT, rowAt, ↓jg, ↓ji, Nat.reduceAdd, Nat.reduceEqDiff, ne_eq, jG, Nat.reduceLT, if_true, ite_true, Int.reduceLE, Int.reduceLT, Int.reduceEq, Int.reduceNeg, Int.reduceAdd, Nat.reduceSub, if_false, ite_false, fs_4.1, slA, r0, r17, g1, g2, g3, g4, g5, d5, hk0, hw, hn0, hn1, hn17, st_buildSliceV, build_bit, hb0, bapp_nil (c := bitB b 0), kind_pure, kind_load, kind_fresh, kind_other, jg, ji, undef]; first | exact rfl | exact ⟨rfl, rfl, rfl, rfl⟩); try (with_reducible refine calmK_in ?_; decide +kernel)))
          refine ⟨q - 1, by omega, 1, _, _, _, some (nx' + 12), [bitB b 0], by omega, rfl, by omega, ?_, ?_, rfl, .inr ⟨_, rfl, by omega, by omega, ?_⟩, ?_, ?_, ?_, ?_, ?_, ?_, ?_, ?_⟩
          · simp only [all_relogL, js, ju, List.all_nil, jt, Bool.and_self, Bool.true_and, Bool.and_true, hlg]
          · intro x hx; (repeat (first | rw [qE] | rw [qF _ _ _ _ (by omega)])); exact hold x hx
          · (repeat (first | rw [qE] | rw [qF _ _ _ _ (by omega)])); rfl
          · (repeat (first | rw [qE] | rw [qF _ _ _ _ (by omega)]))
            exact r0
          · (repeat (first | rw [qE] | rw [qF _ _ _ _ (by omega)]))
            exact r1
          · (repeat (first | rw [qE] | rw [qF _ _ _ _ (by omega)])); rfl
          · simp only [qC, qD, qE, qF, Tr.get_nil, ne_eq, not_false_eq_true, Nat.reduceEqDiff, g1]
          · simp only [qC, qD, qE, qF, Tr.get_nil, ne_eq, not_false_eq_true, Nat.reduceEqDiff, g2]
          · simp only [qC, qD, qE, qF, Tr.get_nil, ne_eq, not_false_eq_true, Nat.reduceEqDiff, g3]
          · simp only [qC, qD, qE, qF, Tr.get_nil, ne_eq, not_false_eq_true, Nat.reduceEqDiff, g4]
          · simp only [qC, qD, qE, qF, Tr.get_nil, ne_eq, not_false_eq_true, Nat.reduceEqDiff]
        · have hj17 : j ≠ nx + 17 := by omega
          have hj17' := Ne.symm hj17
          have happ := bapp_row (c := bitB b k) hbl (by omega : k < 1000)
          repeat (first | with_reducible (first | refine n_on ?_ | refine n_seq ?_ | refine s_else ?_ | refine n_t ?_ | refine n_gt ?_ | refine d_t ?_ | refine n_nil ?_ | refine d_nil ?_ | refine n_block ?_ | refine n_skip ?_ | refine n_bon ?_ | refine n_bback ?_ | refine n_back ?_ | refine n_out ?_ | refine n_bout rfl ?_ | refine n_bfar rfl ?_ | refine n_ret ?_ | refine n_exit ?_ | refine n_label ?_ | refine n_scope ?_ | refine n_son ?_ | refine n_sback ?_) | (with_reducible (first | apply n_region | apply d_region); (simp only [JV, JU, JW, Nat.reduceAdd, Nat.zero_add]; exact rfl)) | (with_reducible (first | apply s_op | apply n_guard | apply n_cond | apply d_guard | apply d_op | apply n_fin | apply n_finb); (simp (maxDischargeDepth := 6) only [sy3.1, zY, qG, qP, qQ, qR, qS, qT, rowAt, ↓jg, ↓ji, Nat.reduceAdd, Nat.reduceEqDiff, ne_eq, jG, Nat.reduceLT, if_true, ite_true, Int.reduceLE, Int.reduceLT, Int.reduceEq, Int.reduceNeg, Int.reduceAdd, Nat.reduceSub, if_false, ite_false, fs_4.1, slA, r0, r17, g1, g2, g3, g4, g5, d5, hk0, hw, hjr, hn0, hn1, hn17, st_buildSliceV, build_bit, hbk, happ, hj2, hj17, hj17', kind_pure, kind_load, kind_fresh, kind_other, jg, ji, undef]; first | exact rfl | exact ⟨rfl, rfl, rfl, rfl⟩); try (with_reducible refine calmK_in ?_; decide +kernel)))
          have hbj : Nat.ble nx j = true := Nat.ble_eq.mpr (by omega)
          refine ⟨q - 1, by omega, k + 1, _, _, _, some (nx' + 12), bx ++ [bitB b k], by omega, rfl, by omega, ?_, ?_, by rw [List.length_append]; simp only [List.length_cons, List.length_nil, hbl], .inr ⟨_, rfl, by omega, by omega, ?_⟩, ?_, ?_, ?_, ?_, ?_, ?_, ?_, ?_⟩
          · simp only [all_relogL, js, ju, List.all_nil, jt, Bool.and_self, Bool.true_and, Bool.and_true, hlg, hbj]
          · intro x hx; (repeat (first | rw [qE] | rw [qF _ _ _ _ (by omega)])); exact hold x hx
          · (repeat (first | rw [qE] | rw [qF _ _ _ _ (by omega)])); rw [List.map_append]; rfl
          · (repeat (first | rw [qE] | rw [qF _ _ _ _ (by omega)]))
            exact r0
          · (repeat (first | rw [qE] | rw [qF _ _ _ _ (by omega)]))
            exact r1
          · (repeat (first | rw [qE] | rw [qF _ _ _ _ (by omega)])); rfl
          · simp only [qC, qD, qE, qF, Tr.get_nil, ne_eq, not_false_eq_true, Nat.reduceEqDiff, g1]
          · simp only [qC, qD, qE, qF, Tr.get_nil, ne_eq, not_false_eq_true, Nat.reduceEqDiff, g2]
          · simp only [qC, qD, qE, qF, Tr.get_nil, ne_eq, not_false_eq_true, Nat.reduceEqDiff, g3]
          · simp only [qC, qD, qE, qF, Tr.get_nil, ne_eq, not_false_eq_true, Nat.reduceEqDiff, g4]
          · simp only [qC, qD, qE, qF, Tr.get_nil, ne_eq, not_false_eq_true, Nat.reduceEqDiff]
      · have hk5 : k = S := by omega
        subst hk5
        have d5 : decide (k < k) = false := decide_eq_false (by omega)
        repeat (first | with_reducible (first | refine n_on ?_ | refine n_seq ?_ | refine s_else ?_ | refine n_t ?_ | refine n_gt ?_ | refine d_t ?_ | refine n_nil ?_ | refine d_nil ?_ | refine n_block ?_ | refine n_skip ?_ | refine n_bon ?_ | refine n_bback ?_ | refine n_back ?_ | refine n_out ?_ | refine n_bout rfl ?_ | refine n_bfar rfl ?_ | refine n_ret ?_ | refine n_exit ?_ | refine n_label ?_ | refine n_scope ?_ | refine n_son ?_ | refine n_sback ?_) | (with_reducible (first | apply n_region | apply d_region); (simp only [JV, JU, JW, Nat.reduceAdd, Nat.zero_add]; exact rfl)) | (with_reducible (first | apply s_op | apply n_guard | apply n_cond | apply d_guard | apply d_op | apply n_fin | apply n_finb); (simp (maxDischargeDepth := 6) only [sy3.1, zY, qG, qP, qQ, qR, qS, qT, rowAt, ↓jg, ↓ji, Nat.reduceAdd, Nat.reduceEqDiff, ne_eq, jG, Nat.reduceLT, if_true, ite_true, Int.reduceLE, Int.reduceLT, Int.reduceEq, Int.reduceNeg, Int.reduceAdd, Nat.reduceSub, if_false, ite_false, fs_4.1, slA, r0, r17, g1, g2, g3, g4, g5, d5, kind_pure, kind_load, kind_fresh, kind_other, jg, ji, undef]; first | exact rfl | exact ⟨rfl, rfl, rfl, rfl⟩); try (with_reducible refine calmK_in ?_; decide +kernel)))
        refine ⟨_, _, rfl, o', _, lg', a, bx, rfl, by omega, hlg, hold, hbl, ?_, r0, r1, r17, ?_, ?_, ?_, ?_⟩
        · rcases hbox with h | ⟨j, h1, h2, h3, h4⟩
          · exact .inl h
          · exact .inr ⟨j, h1, h2, by omega, h4⟩
        · simp only [qC, qD, qE, qF, Tr.get_nil, ne_eq, not_false_eq_true, Nat.reduceEqDiff, g1]
        · simp only [qC, qD, qE, qF, Tr.get_nil, ne_eq, not_false_eq_true, Nat.reduceEqDiff, g2]
        · simp only [qC, qD, qE, qF, Tr.get_nil, ne_eq, not_false_eq_true, Nat.reduceEqDiff, g3]
        · simp only [qC, qD, qE, qF, Tr.get_nil, ne_eq, not_false_eq_true, Nat.reduceEqDiff, g4]
    · refine ⟨0, _, _, _, none, [], by omega, rfl, by omega, ?_, ?_, rfl, .inl ⟨rfl, rfl⟩, ?_, ?_, ?_, ?_, ?_, ?_, ?_, ?_⟩
      · simp only [all_relogL, js, ju, List.all_nil, jt, Bool.and_self]
      · intro x hx; (repeat (first | rw [qE] | rw [qF _ _ _ _ (by omega)]))
      · (repeat (first | rw [qE] | rw [qF _ _ _ _ (by omega)]))
      · (repeat (first | rw [qE] | rw [qF _ _ _ _ (by omega)]))
      · (repeat (first | rw [qE] | rw [qF _ _ _ _ (by omega)])); rfl
      · simp only [qG, qC, qD, qE, qF, Tr.get_nil, ne_eq, not_false_eq_true, Nat.reduceEqDiff]
      · simp only [qG, qC, qD, qE, qF, Tr.get_nil, ne_eq, not_false_eq_true, Nat.reduceEqDiff]
      · simp only [qG, qC, qD, qE, qF, Tr.get_nil, ne_eq, not_false_eq_true, Nat.reduceEqDiff]
      · simp only [qG, qC, qD, qE, qF, Tr.get_nil, ne_eq, not_false_eq_true, Nat.reduceEqDiff]
      · simp only [qG, qC, qD, qE, qF, Tr.get_nil, ne_eq, not_false_eq_true, Nat.reduceEqDiff]; rfl
  · rintro e H ⟨o', nx', lg', a, bx, rfl, hnx, hlg, hold, hbl, hbox, r0, r1, r17, g1, g2, g3, g4⟩
    repeat (first | with_reducible (first | refine n_on ?_ | refine n_seq ?_ | refine s_else ?_ | refine n_t ?_ | refine n_gt ?_ | refine d_t ?_ | refine n_nil ?_ | refine d_nil ?_ | refine n_block ?_ | refine n_skip ?_ | refine n_bon ?_ | refine n_bback ?_ | refine n_back ?_ | refine n_out ?_ | refine n_bout rfl ?_ | refine n_bfar rfl ?_ | refine n_ret ?_ | refine n_exit ?_ | refine n_label ?_ | refine n_scope ?_ | refine n_son ?_ | refine n_sback ?_) | (with_reducible (first | apply n_region | apply d_region); (simp only [JV, JU, JW, Nat.reduceAdd, Nat.zero_add]; exact rfl)) | (with_reducible (first | apply s_op | apply n_guard | apply n_cond | apply d_guard | apply d_op | apply n_fin | apply n_finb); (simp (maxDischargeDepth := 6) only [sy3.1, zY, qG, qP, qQ, qR, qS, qT, rowAt, ↓jg, ↓ji, Nat.reduceAdd, Nat.reduceEqDiff, ne_eq, jG, Nat.reduceLT, if_true, ite_true, Int.reduceLE, Int.reduceLT, Int.reduceEq, Int.reduceNeg, Int.reduceAdd, Nat.reduceSub, if_false, ite_false, fs_4.1, r0, kind_pure, kind_load, kind_fresh, kind_other, jg, ji, undef]; first | exact rfl | exact ⟨rfl, rfl, rfl, rfl⟩); try (with_reducible refine calmK_in ?_; decide +kernel)))
    refine loop_cutR (i := 2) (I := fun e H => ∃ o' nx' lg' u k, H = (⟨o', nx', lg'⟩ : AHeap) ∧ nx + 18 ≤ nx' ∧ lg'.all (fun i => Nat.ble nx i) = true ∧ (∀ x, x < nx → o'.get x = o.get x) ∧ UpsAt o' nx' (nx + 18) u k ∧ o'.get nx = some (.row [.int .i64 pa, .int .i64 sl, .int .i64 b, .bool mo, .slice au ul.length cu] 24 0 true) ∧ o'.get (nx + 1) = some (.row [.slice none 0 0, .slice none 0 0] 33 0 true) ∧ o'.get (nx + 17) = some (.row [.int .i64 pr, .bool mo, .int .i64 (.ofNat S), .slice (slA a) S 0, .slice none 0 0, .slice (some ⟨nx + 15, 0, none⟩) 1 2, .slice none 0 0, .int .i64 0] 65 0 true) ∧ e.get 1 = some (.pointer (some ⟨nx, 0, none⟩)) ∧ e.get 2 = some (.pointer (some ⟨nx + 1, 0, none⟩)) ∧ e.get 4 = some (.pointer (some ⟨nx + 17, 0, none⟩)) ∧ e.get 6 = some u) ?_ ?_
    · rw [y_loop_eq]
      refine y_loop (I := fun q e H => ∃ k o' nx' lg' u, k + q = min ul.length 4 ∧ H = (⟨o', nx', lg'⟩ : AHeap) ∧ nx + 18 ≤ nx' ∧ lg'.all (fun i => Nat.ble nx i) = true ∧ (∀ x, x < nx → o'.get x = o.get x) ∧ UpsAt o' nx' (nx + 18) u k ∧ o'.get nx = some (.row [.int .i64 pa, .int .i64 sl, .int .i64 b, .bool mo, .slice au ul.length cu] 24 0 true) ∧ o'.get (nx + 1) = some (.row [.slice none 0 0, .slice none 0 0] 33 0 true) ∧ o'.get (nx + 17) = some (.row [.int .i64 pr, .bool mo, .int .i64 (.ofNat S), .slice (slA a) S 0, .slice none 0 0, .slice (some ⟨nx + 15, 0, none⟩) 1 2, .slice none 0 0, .int .i64 0] 65 0 true) ∧ e.get 1 = some (.pointer (some ⟨nx, 0, none⟩)) ∧ e.get 2 = some (.pointer (some ⟨nx + 1, 0, none⟩)) ∧ e.get 4 = some (.pointer (some ⟨nx + 17, 0, none⟩)) ∧ e.get 6 = some u ∧ e.get 7 = some (.int .i64 (.ofNat k))) ?_ (min ul.length 4) _ _ _ ?_ (by omega)
      · rintro q e H ⟨k, o', nx', lg', u, hk, rfl, hnx, hlg, hold, hups, r0, r1, r17, g1, g2, g4, g6, g7⟩
        have hn0 : nx < nx' := by omega
        by_cases hlt : k < min ul.length 4
        · have hkl : k < ul.length := by omega
          have hk4 : k < 4 := by omega
          obtain ⟨j1, o1, cells1, et1, es1, w1, rfl, hj1, hr1, hc1⟩ := hu.at hkl
          have e1 : decide (k < ul.length) = true := decide_eq_true hkl
          have d4 : decide (Int.ofNat k < 4) = true := decide_eq_true (by simp only [Int.ofNat_eq_natCast]; omega)
          have b1 : Nat.blt k ul.length = true := by rw [Nat.blt_eq]; exact hkl
          have hw1 := wrap_next k (by omega)
          have hk0 : 0 ≤ Int.ofNat k := Int.natCast_nonneg k
          have hr1' : o'.get j1 = some (.row cells1 et1 es1 w1) := by rw [hold j1 hj1]; exact hr1
          have hj1' : j1 < nx' := by omega
          generalize ul[k] = x at hc1
          by_cases hneg : x < 0
          · have d0 : decide (x < 0) = true := decide_eq_true hneg
            rcases hups with ⟨rfl, hk00⟩ | ⟨j, cells, rfl, hj2, hj3, hjr, hcl⟩
            · subst hk00
              have hcC : cells1[o1]? = some (.int .i64 x) := hc1
              repeat (first | with_reducible (first | refine n_on ?_ | refine n_seq ?_ | refine s_else ?_ | refine n_t ?_ | refine n_gt ?_ | refine d_t ?_ | refine n_nil ?_ | refine d_nil ?_ | refine n_block ?_ | refine n_skip ?_ | refine n_bon ?_ | refine n_bback ?_ | refine n_back ?_ | refine n_out ?_ | refine n_bout rfl ?_ | refine n_bfar rfl ?_ | refine n_ret ?_ | refine n_exit ?_ | refine n_label ?_ | refine n_scope ?_ | refine n_son ?_ | refine n_sback ?_) | (with_reducible (first | apply n_region | apply d_region); (simp only [JV, JU, JW, Nat.reduceAdd, Nat.zero_add]; exact rfl)) | (with_reducible (first | apply s_op | apply n_guard | apply n_cond | apply d_guard | apply d_op | apply n_fin | apply n_finb); (simp (maxDischargeDepth := 6) only [sy3.1, zY, qG, qP, qQ, qR, qS, qT, rowAt, ↓jg, ↓ji, Nat.reduceAdd, Nat.reduceEqDiff, ne_eq, jG, Nat.reduceLT, if_true, ite_true, Int.reduceLE, Int.reduceLT, Int.reduceEq, Int.reduceNeg, Int.reduceAdd, Nat.reduceSub, if_false, ite_false, fs_4.1, g1, g4, g6, g7, e1, d4, d0, b1, hw1, hk0, hr1', hj1', r0, hn0, indexAt, Option.isNone_none, st_buildSliceV, build_up0, hcC, uapp_nil false (IntKind.i64.wrap (-1 - x)), kind_pure, kind_load, kind_fresh, kind_other, jg, ji, undef]; first | exact rfl | exact ⟨rfl, rfl, rfl, rfl⟩); try (with_reducible refine calmK_in ?_; decide +kernel)))
              refine ⟨q - 1, by omega, 1, _, _, _, .slice (some ⟨nx' + 24, 0, none⟩) 1 0, by omega, rfl, by omega, ?_, ?_, .inr ⟨nx' + 24, [.bool false, .int .i64 (IntKind.i64.wrap (-1 - x))], rfl, by omega, by omega, ?_, ?_⟩, ?_, ?_, ?_, ?_, ?_, ?_, ?_, ?_⟩
              · simp only [all_relogL, js, ju, List.all_nil, jt, Bool.and_self, Bool.true_and, Bool.and_true, hlg]
              · intro y hy; (repeat (first | rw [qE] | rw [qF _ _ _ _ (by omega)])); exact hold y hy
              · (repeat (first | rw [qE] | rw [qF _ _ _ _ (by omega)]))
              · rfl
              · (repeat (first | rw [qE] | rw [qF _ _ _ _ (by omega)])); exact r0
              · (repeat (first | rw [qE] | rw [qF _ _ _ _ (by omega)])); exact r1
              · (repeat (first | rw [qE] | rw [qF _ _ _ _ (by omega)])); exact r17
              · simp only [qC, qD, qE, qF, Tr.get_nil, ne_eq, not_false_eq_true, Nat.reduceEqDiff, g1]
              · simp only [qC, qD, qE, qF, Tr.get_nil, ne_eq, not_false_eq_true, Nat.reduceEqDiff, g2]
              · simp only [qC, qD, qE, qF, Tr.get_nil, ne_eq, not_false_eq_true, Nat.reduceEqDiff, g4]
              · simp only [qC, qD, qE, qF, Tr.get_nil, ne_eq, not_false_eq_true, Nat.reduceEqDiff]
              · simp only [qC, qD, qE, qF, Tr.get_nil, ne_eq, not_false_eq_true, Nat.reduceEqDiff]
            · have hbj : Nat.ble nx j = true := Nat.ble_eq.mpr (by omega)
              have hjj1 : j ≠ j1 := by omega
              have hjn : j ≠ nx := by omega
              have hj17 : j ≠ nx + 17 := by omega
              have hj1n : j ≠ nx + 1 := by omega
              have hcB : cells1[o1 + k * 1]? = some (.int .i64 x) := by rw [Nat.mul_one]; exact hc1
              repeat (first | with_reducible (first | refine n_on ?_ | refine n_seq ?_ | refine s_else ?_ | refine n_t ?_ | refine n_gt ?_ | refine d_t ?_ | refine n_nil ?_ | refine d_nil ?_ | refine n_block ?_ | refine n_skip ?_ | refine n_bon ?_ | refine n_bback ?_ | refine n_back ?_ | refine n_out ?_ | refine n_bout rfl ?_ | refine n_bfar rfl ?_ | refine n_ret ?_ | refine n_exit ?_ | refine n_label ?_ | refine n_scope ?_ | refine n_son ?_ | refine n_sback ?_) | (with_reducible (first | apply n_region | apply d_region); (simp only [JV, JU, JW, Nat.reduceAdd, Nat.zero_add]; exact rfl)) | (with_reducible (first | apply s_op | apply n_guard | apply n_cond | apply d_guard | apply d_op | apply n_fin | apply n_finb); (simp (maxDischargeDepth := 6) only [sy3.1, zY, qG, qP, qQ, qR, qS, qT, rowAt, ↓jg, ↓ji, Nat.reduceAdd, Nat.reduceEqDiff, ne_eq, jG, Nat.reduceLT, if_true, ite_true, Int.reduceLE, Int.reduceLT, Int.reduceEq, Int.reduceNeg, Int.reduceAdd, Nat.reduceSub, if_false, ite_false, fs_4.1, g1, g4, g6, g7, e1, d4, d0, b1, hw1, hk0, hr1', hj1', r0, hn0, indexAt, Option.isNone_none, st_buildSliceV, build_up0, hcB, hj3, hjr, hjj1, hjn, uapp_row hcl (by omega) false (IntKind.i64.wrap (-1 - x)), kind_pure, kind_load, kind_fresh, kind_other, jg, ji, undef]; first | exact rfl | exact ⟨rfl, rfl, rfl, rfl⟩); try (with_reducible refine calmK_in ?_; decide +kernel)))
              refine ⟨q - 1, by omega, k + 1, _, _, _, .slice (some ⟨nx' + 24, 0, none⟩) (k + 1) 0, by omega, rfl, by omega, ?_, ?_, .inr ⟨nx' + 24, cells ++ [.bool false, .int .i64 (IntKind.i64.wrap (-1 - x))], rfl, by omega, by omega, ?_, ?_⟩, ?_, ?_, ?_, ?_, ?_, ?_, ?_, ?_⟩
              · simp only [all_relogL, js, ju, List.all_nil, jt, Bool.and_self, Bool.true_and, Bool.and_true, hlg, hbj]
              · intro y hy; (repeat (first | rw [qE] | rw [qF _ _ _ _ (by omega)])); exact hold y hy
              · (repeat (first | rw [qE] | rw [qF _ _ _ _ (by omega)]))
              · rw [List.length_append, hcl]; simp only [List.length_cons, List.length_nil]; omega
              · (repeat (first | rw [qE] | rw [qF _ _ _ _ (by omega)])); exact r0
              · (repeat (first | rw [qE] | rw [qF _ _ _ _ (by omega)])); exact r1
              · (repeat (first | rw [qE] | rw [qF _ _ _ _ (by omega)])); exact r17
              · simp only [qC, qD, qE, qF, Tr.get_nil, ne_eq, not_false_eq_true, Nat.reduceEqDiff, g1]
              · simp only [qC, qD, qE, qF, Tr.get_nil, ne_eq, not_false_eq_true, Nat.reduceEqDiff, g2]
              · simp only [qC, qD, qE, qF, Tr.get_nil, ne_eq, not_false_eq_true, Nat.reduceEqDiff, g4]
              · simp only [qC, qD, qE, qF, Tr.get_nil, ne_eq, not_false_eq_true, Nat.reduceEqDiff]
              · simp only [qC, qD, qE, qF, Tr.get_nil, ne_eq, not_false_eq_true, Nat.reduceEqDiff]
          · have d0 : decide (x < 0) = false := decide_eq_false hneg
            rcases hups with ⟨rfl, hk00⟩ | ⟨j, cells, rfl, hj2, hj3, hjr, hcl⟩
            · subst hk00
              have hcC : cells1[o1]? = some (.int .i64 x) := hc1
              repeat (first | with_reducible (first | refine n_on ?_ | refine n_seq ?_ | refine s_else ?_ | refine n_t ?_ | refine n_gt ?_ | refine d_t ?_ | refine n_nil ?_ | refine d_nil ?_ | refine n_block ?_ | refine n_skip ?_ | refine n_bon ?_ | refine n_bback ?_ | refine n_back ?_ | refine n_out ?_ | refine n_bout rfl ?_ | refine n_bfar rfl ?_ | refine n_ret ?_ | refine n_exit ?_ | refine n_label ?_ | refine n_scope ?_ | refine n_son ?_ | refine n_sback ?_) | (with_reducible (first | apply n_region | apply d_region); (simp only [JV, JU, JW, Nat.reduceAdd, Nat.zero_add]; exact rfl)) | (with_reducible (first | apply s_op | apply n_guard | apply n_cond | apply d_guard | apply d_op | apply n_fin | apply n_finb); (simp (maxDischargeDepth := 6) only [sy3.1, zY, qG, qP, qQ, qR, qS, qT, rowAt, ↓jg, ↓ji, Nat.reduceAdd, Nat.reduceEqDiff, ne_eq, jG, Nat.reduceLT, if_true, ite_true, Int.reduceLE, Int.reduceLT, Int.reduceEq, Int.reduceNeg, Int.reduceAdd, Nat.reduceSub, if_false, ite_false, fs_4.1, g1, g4, g6, g7, e1, d4, d0, b1, hw1, hk0, hr1', hj1', r0, hn0, indexAt, Option.isNone_none, st_buildSliceV, build_up1, hcC, uapp_nil true x, kind_pure, kind_load, kind_fresh, kind_other, jg, ji, undef]; first | exact rfl | exact ⟨rfl, rfl, rfl, rfl⟩); try (with_reducible refine calmK_in ?_; decide +kernel)))
              refine ⟨q - 1, by omega, 1, _, _, _, .slice (some ⟨nx' + 23, 0, none⟩) 1 0, by omega, rfl, by omega, ?_, ?_, .inr ⟨nx' + 23, [.bool true, .int .i64 x], rfl, by omega, by omega, ?_, ?_⟩, ?_, ?_, ?_, ?_, ?_, ?_, ?_, ?_⟩
              · simp only [all_relogL, js, ju, List.all_nil, jt, Bool.and_self, Bool.true_and, Bool.and_true, hlg]
              · intro y hy; (repeat (first | rw [qE] | rw [qF _ _ _ _ (by omega)])); exact hold y hy
              · (repeat (first | rw [qE] | rw [qF _ _ _ _ (by omega)]))
              · rfl
              · (repeat (first | rw [qE] | rw [qF _ _ _ _ (by omega)])); exact r0
              · (repeat (first | rw [qE] | rw [qF _ _ _ _ (by omega)])); exact r1
              · (repeat (first | rw [qE] | rw [qF _ _ _ _ (by omega)])); exact r17
              · simp only [qC, qD, qE, qF, Tr.get_nil, ne_eq, not_false_eq_true, Nat.reduceEqDiff, g1]
              · simp only [qC, qD, qE, qF, Tr.get_nil, ne_eq, not_false_eq_true, Nat.reduceEqDiff, g2]
              · simp only [qC, qD, qE, qF, Tr.get_nil, ne_eq, not_false_eq_true, Nat.reduceEqDiff, g4]
              · simp only [qC, qD, qE, qF, Tr.get_nil, ne_eq, not_false_eq_true, Nat.reduceEqDiff]
              · simp only [qC, qD, qE, qF, Tr.get_nil, ne_eq, not_false_eq_true, Nat.reduceEqDiff]
            · have hbj : Nat.ble nx j = true := Nat.ble_eq.mpr (by omega)
              have hjj1 : j ≠ j1 := by omega
              have hjn : j ≠ nx := by omega
              have hj17 : j ≠ nx + 17 := by omega
              have hj1n : j ≠ nx + 1 := by omega
              have hcB : cells1[o1 + k * 1]? = some (.int .i64 x) := by rw [Nat.mul_one]; exact hc1
              repeat (first | with_reducible (first | refine n_on ?_ | refine n_seq ?_ | refine s_else ?_ | refine n_t ?_ | refine n_gt ?_ | refine d_t ?_ | refine n_nil ?_ | refine d_nil ?_ | refine n_block ?_ | refine n_skip ?_ | refine n_bon ?_ | refine n_bback ?_ | refine n_back ?_ | refine n_out ?_ | refine n_bout rfl ?_ | refine n_bfar rfl ?_ | refine n_ret ?_ | refine n_exit ?_ | refine n_label ?_ | refine n_scope ?_ | refine n_son ?_ | refine n_sback ?_) | (with_reducible (first | apply n_region | apply d_region); (simp only [JV, JU, JW, Nat.reduceAdd, Nat.zero_add]; exact rfl)) | (with_reducible (first | apply s_op | apply n_guard | apply n_cond | apply d_guard | apply d_op | apply n_fin | apply n_finb); (simp (maxDischargeDepth := 6) only [sy3.1, zY, qG, qP, qQ, qR, qS, qT, rowAt, ↓jg, ↓ji, Nat.reduceAdd, Nat.reduceEqDiff, ne_eq, jG, Nat.reduceLT, if_true, ite_true, Int.reduceLE, Int.reduceLT, Int.reduceEq, Int.reduceNeg, Int.reduceAdd, Nat.reduceSub, if_false, ite_false, fs_4.1, g1, g4, g6, g7, e1, d4, d0, b1, hw1, hk0, hr1', hj1', r0, hn0, indexAt, Option.isNone_none, st_buildSliceV, build_up1, hcB, hj3, hjr, hjj1, hjn, uapp_row hcl (by omega) true x, kind_pure, kind_load, kind_fresh, kind_other, jg, ji, undef]; first | exact rfl | exact ⟨rfl, rfl, rfl, rfl⟩); try (with_reducible refine calmK_in ?_; decide +kernel)))
              refine ⟨q - 1, by omega, k + 1, _, _, _, .slice (some ⟨nx' + 23, 0, none⟩) (k + 1) 0, by omega, rfl, by omega, ?_, ?_, .inr ⟨nx' + 23, cells ++ [.bool true, .int .i64 x], rfl, by omega, by omega, ?_, ?_⟩, ?_, ?_, ?_, ?_, ?_, ?_, ?_, ?_⟩
              · simp only [all_relogL, js, ju, List.all_nil, jt, Bool.and_self, Bool.true_and, Bool.and_true, hlg, hbj]
              · intro y hy; (repeat (first | rw [qE] | rw [qF _ _ _ _ (by omega)])); exact hold y hy
              · (repeat (first | rw [qE] | rw [qF _ _ _ _ (by omega)]))
              · rw [List.length_append, hcl]; simp only [List.length_cons, List.length_nil]; omega
              · (repeat (first | rw [qE] | rw [qF _ _ _ _ (by omega)])); exact r0
              · (repeat (first | rw [qE] | rw [qF _ _ _ _ (by omega)])); exact r1
              · (repeat (first | rw [qE] | rw [qF _ _ _ _ (by omega)])); exact r17
              · simp only [qC, qD, qE, qF, Tr.get_nil, ne_eq, not_false_eq_true, Nat.reduceEqDiff, g1]
              · simp only [qC, qD, qE, qF, Tr.get_nil, ne_eq, not_false_eq_true, Nat.reduceEqDiff, g2]
              · simp only [qC, qD, qE, qF, Tr.get_nil, ne_eq, not_false_eq_true, Nat.reduceEqDiff, g4]
              · simp only [qC, qD, qE, qF, Tr.get_nil, ne_eq, not_false_eq_true, Nat.reduceEqDiff]
              · simp only [qC, qD, qE, qF, Tr.get_nil, ne_eq, not_false_eq_true, Nat.reduceEqDiff]
        · have fin : ∀ e' nx2, nx' ≤ nx2 → e'.get 1 = some (.pointer (some ⟨nx, 0, none⟩)) → e'.get 2 = some (.pointer (some ⟨nx + 1, 0, none⟩)) → e'.get 4 = some (.pointer (some ⟨nx + 17, 0, none⟩)) → e'.get 6 = some u → ∃ e h, ((Way.out 2, e', (⟨o', nx2, lg'⟩ : AHeap)) : St) = (Way.out 2, e, h) ∧ ∃ o' nx' lg' u k, h = (⟨o', nx', lg'⟩ : AHeap) ∧ nx + 18 ≤ nx' ∧ lg'.all (fun i => Nat.ble nx i) = true ∧ (∀ x, x < nx → o'.get x = o.get x) ∧ UpsAt o' nx' (nx + 18) u k ∧ o'.get nx = some (.row [.int .i64 pa, .int .i64 sl, .int .i64 b, .bool mo, .slice au ul.length cu] 24 0 true) ∧ o'.get (nx + 1) = some (.row [.slice none 0 0, .slice none 0 0] 33 0 true) ∧ o'.get (nx + 17) = some (.row [.int .i64 pr, .bool mo, .int .i64 (.ofNat S), .slice (slA a) S 0, .slice none 0 0, .slice (some ⟨nx + 15, 0, none⟩) 1 2, .slice none 0 0, .int .i64 0] 65 0 true) ∧ e.get 1 = some (.pointer (some ⟨nx, 0, none⟩)) ∧ e.get 2 = some (.pointer (some ⟨nx + 1, 0, none⟩)) ∧ e.get 4 = some (.pointer (some ⟨nx + 17, 0, none⟩)) ∧ e.get 6 = some u := fun e' nx2 h2 h3 h4 h5 h6 =>
            ⟨_, _, rfl, o', nx2, lg', u, k, rfl, by omega, hlg, hold, (by
              rcases hups with h | ⟨j, cells, q1, q2, q3, q4, q5⟩
              · exact .inl h
              · exact .inr ⟨j, cells, q1, q2, by omega, q4, q5⟩), r0, r1, r17, h3, h4, h5, h6⟩
          by_cases hkl : k < ul.length
          · have e1 : decide (k < ul.length) = true := decide_eq_true hkl
            have d4 : decide (Int.ofNat k < 4) = false := decide_eq_false (by simp only [Int.ofNat_eq_natCast]; omega)
            repeat (first | with_reducible (first | refine n_on ?_ | refine n_seq ?_ | refine s_else ?_ | refine n_t ?_ | refine n_gt ?_ | refine d_t ?_ | refine n_nil ?_ | refine d_nil ?_ | refine n_block ?_ | refine n_skip ?_ | refine n_bon ?_ | refine n_bback ?_ | refine n_back ?_ | refine n_out ?_ | refine n_bout rfl ?_ | refine n_bfar rfl ?_ | refine n_ret ?_ | refine n_exit ?_ | refine n_label ?_ | refine n_scope ?_ | refine n_son ?_ | refine n_sback ?_) | (with_reducible (first | apply n_region | apply d_region); (simp only [JV, JU, JW, Nat.reduceAdd, Nat.zero_add]; exact rfl)) | (with_reducible (first | apply s_op | apply n_guard | apply n_cond | apply d_guard | apply d_op | apply n_fin | apply n_finb); (simp (maxDischargeDepth := 6) only [sy3.1, zY, qG, qP, qQ, qR, qS, qT, rowAt, ↓jg, ↓ji, Nat.reduceAdd, Nat.reduceEqDiff, ne_eq, jG, Nat.reduceLT, if_true, ite_true, Int.reduceLE, Int.reduceLT, Int.reduceEq, Int.reduceNeg, Int.reduceAdd, Nat.reduceSub, if_false, ite_false, fs_4.1, g1, g4, g6, g7, e1, d4, r0, hn0, kind_pure, kind_load, kind_fresh, kind_other, jg, ji, undef]; first | exact rfl | exact ⟨rfl, rfl, rfl, rfl⟩); try (with_reducible refine calmK_in ?_; decide +kernel)))
            exact fin _ _ (by omega) (by simp only [qC, qD, qE, qF, Tr.get_nil, ne_eq, not_false_eq_true, Nat.reduceEqDiff, g1]) (by simp only [qC, qD, qE, qF, Tr.get_nil, ne_eq, not_false_eq_true, Nat.reduceEqDiff, g2]) (by simp only [qC, qD, qE, qF, Tr.get_nil, ne_eq, not_false_eq_true, Nat.reduceEqDiff, g4]) (by simp only [qC, qD, qE, qF, Tr.get_nil, ne_eq, not_false_eq_true, Nat.reduceEqDiff, g6])
          · have e1 : decide (k < ul.length) = false := decide_eq_false hkl
            repeat (first | with_reducible (first | refine n_on ?_ | refine n_seq ?_ | refine s_else ?_ | refine n_t ?_ | refine n_gt ?_ | refine d_t ?_ | refine n_nil ?_ | refine d_nil ?_ | refine n_block ?_ | refine n_skip ?_ | refine n_bon ?_ | refine n_bback ?_ | refine n_back ?_ | refine n_out ?_ | refine n_bout rfl ?_ | refine n_bfar rfl ?_ | refine n_ret ?_ | refine n_exit ?_ | refine n_label ?_ | refine n_scope ?_ | refine n_son ?_ | refine n_sback ?_) | (with_reducible (first | apply n_region | apply d_region); (simp only [JV, JU, JW, Nat.reduceAdd, Nat.zero_add]; exact rfl)) | (with_reducible (first | apply s_op | apply n_guard | apply n_cond | apply d_guard | apply d_op | apply n_fin | apply n_finb); (simp (maxDischargeDepth := 6) only [sy3.1, zY, qG, qP, qQ, qR, qS, qT, rowAt, ↓jg, ↓ji, Nat.reduceAdd, Nat.reduceEqDiff, ne_eq, jG, Nat.reduceLT, if_true, ite_true, Int.reduceLE, Int.reduceLT, Int.reduceEq, Int.reduceNeg, Int.reduceAdd, Nat.reduceSub, if_false, ite_false, fs_4.1, g1, g4, g6, g7, e1, r0, hn0, kind_pure, kind_load, kind_fresh, kind_other, jg, ji, undef]; first | exact rfl | exact ⟨rfl, rfl, rfl, rfl⟩); try (with_reducible refine calmK_in ?_; decide +kernel)))
            exact fin _ _ (by omega) (by simp only [qC, qD, qE, qF, Tr.get_nil, ne_eq, not_false_eq_true, Nat.reduceEqDiff, g1]) (by simp only [qC, qD, qE, qF, Tr.get_nil, ne_eq, not_false_eq_true, Nat.reduceEqDiff, g2]) (by simp only [qC, qD, qE, qF, Tr.get_nil, ne_eq, not_false_eq_true, Nat.reduceEqDiff, g4]) (by simp only [qC, qD, qE, qF, Tr.get_nil, ne_eq, not_false_eq_true, Nat.reduceEqDiff, g6])
      · refine ⟨0, o', _, lg', .slice none 0 0, by omega, rfl, by omega, ?_, hold, .inl ⟨rfl, rfl⟩, r0, r1, r17, ?_, ?_, ?_, ?_, ?_⟩
        · simp only [all_relogL, js, ju, List.all_nil, jt, Bool.and_self, Bool.true_and, Bool.and_true, hlg]
        · simp only [qC, qD, qE, qF, Tr.get_nil, ne_eq, not_false_eq_true, Nat.reduceEqDiff, g1]
        · simp only [qC, qD, qE, qF, Tr.get_nil, ne_eq, not_false_eq_true, Nat.reduceEqDiff, g2]
        · simp only [qC, qD, qE, qF, Tr.get_nil, ne_eq, not_false_eq_true, Nat.reduceEqDiff, g4]
        · simp only [qC, qD, qE, qF, Tr.get_nil, ne_eq, not_false_eq_true, Nat.reduceEqDiff]
        · simp only [qC, qD, qE, qF, Tr.get_nil, ne_eq, not_false_eq_true, Nat.reduceEqDiff]; rfl
    · rintro e H ⟨o', nx', lg', u, k, rfl, hnx, hlg, hold, hups, r0, r1, r17, g1, g2, g4, g6⟩
      obtain ⟨ua, un, uc, rfl⟩ := hups.slice
      have hbp := fun fid H => build_protosR pr (.ofNat S) mo (slA a) S 0 (.slice ua un uc) (nx + 15) fid H ⟨_, _, _, rfl⟩
      have hn1 : nx + 1 < nx' := by omega
      have hn17 : nx + 17 < nx' := by omega
      repeat (first | with_reducible (first | refine n_on ?_ | refine n_seq ?_ | refine s_else ?_ | refine n_t ?_ | refine n_gt ?_ | refine d_t ?_ | refine n_nil ?_ | refine d_nil ?_ | refine n_block ?_ | refine n_skip ?_ | refine n_bon ?_ | refine n_bback ?_ | refine n_back ?_ | refine n_out ?_ | refine n_bout rfl ?_ | refine n_bfar rfl ?_ | refine n_ret ?_ | refine n_exit ?_ | refine n_label ?_ | refine n_scope ?_ | refine n_son ?_ | refine n_sback ?_) | (with_reducible (first | apply n_region | apply d_region); (simp only [JV, JU, JW, Nat.reduceAdd, Nat.zero_add]; exact rfl)) | (with_reducible (first | apply s_op | apply n_guard | apply n_cond | apply d_guard | apply d_op | apply n_fin | apply n_finb); (simp (maxDischargeDepth := 6) only [sy3.1, zY, qG, qP, qQ, qR, qS, qT, rowAt, ↓jg, ↓ji, Nat.reduceAdd, Nat.reduceEqDiff, ne_eq, jG, Nat.reduceLT, if_true, ite_true, Int.reduceLE, Int.reduceLT, Int.reduceEq, Int.reduceNeg, Int.reduceAdd, Nat.reduceSub, if_false, ite_false, fs_4.1, g1, g2, g4, g6, r1, r17, hn1, hn17, cut_eight, st_buildSliceV, hbp, kind_pure, kind_load, kind_fresh, kind_other, jg, ji, undef]; first | exact rfl | exact ⟨rfl, rfl, rfl, rfl⟩); try (with_reducible refine calmK_in ?_; decide +kernel)))
      have hlow : lowV nx (pV (nx' + 5)) = false := by
        have h : (low1 nx (.slice none 0 0) && (low1 nx (.slice (some ⟨nx' + 5, 0, none⟩) 2 3) && true)) = false := by
          rw [show low1 nx (.slice (some ⟨nx' + 5, 0, none⟩) 2 3) = false from blt_new (show nx ≤ nx' + 5 by omega)]; rfl
        exact h
      rw [leave_newR (by simp only [all_relogL, js, ju, List.all_nil, jt, Bool.and_self, Bool.true_and, Bool.and_true, hlg]) hlow]
      exact ⟨nx' + 5, S, _, nx' + 8, rfl, by omega, fun x hx => by ((repeat (first | rw [qE] | rw [qF _ _ _ _ (by omega)])); exact hold x hx), by omega, by omega, pr, mo, slA a, 0, nx + 15, ua, un, uc, by (repeat (first | rw [qE] | rw [qF _ _ _ _ (by omega)]))⟩
end
end Go.Proofs.Yteomehedmfemiaa
