/- Frame: how the law's program and frame lie in the abstract memory; Right and slot, where all is right. -/
import Derived.Test.YtckahbnkdiamjaaHmNew
namespace Go.Proofs.Ytckahbnkdiamjaa
open Go.RowKit
set_option linter.unusedSimpArgs false
set_option linter.unusedVariables false
set_option maxRecDepth 100000

theorem beqf {i j : Nat} (h : i ≠ j) : Nat.beq i j = false := by
  cases e : Nat.beq i j with
  | false => rfl
  | true => exact absurd (Nat.eq_of_beq_eq_true e) h
theorem cut_twelve (a b c d e f g h i j k l : Value) : cut [a, b, c, d, e, f, g, h, i, j, k, l] 0 12 = some [a, b, c, d, e, f, g, h, i, j, k, l] := rfl
/-- the law's program, as a value -/
abbrev pV (kp : Nat) : Value := .agg #[.slice none 0 0, .slice (some ⟨kp, 0, none⟩) 2 3]
/-- the law's program in its blocks: function 0 of five slots, function 1 within it -/
structure ProgIn (o : Tr AObj) (nx kp kb ks : Nat) (bx : List Bool) (ups : Value) : Prop where
  ltp : kp < nx
  ltb : kb < nx
  lts : ks < nx
  len : bx.length = 5
  row : o.get kp = some (.row [.int .i64 0, .bool false, .int .i64 5, .slice (some ⟨kb, 0, none⟩) 5 0, .slice none 0 0, .slice (some ⟨ks, 0, none⟩) 1 2, .slice none 0 0, .int .i64 0, .int .i64 0, .bool false, .int .i64 0, .slice none 0 0, ups, .slice (some ⟨ks, 0, none⟩) 1 2, .slice none 0 0, .int .i64 0] 73 8 true)
  bxr : ∃ rest, o.get kb = some (.row (bx.map Value.bool ++ rest) 4 1 true)
theorem ProgIn.keep {o o' : Tr AObj} {nx nx' kp kb ks : Nat} {bx : List Bool} {ups : Value} (h : ProgIn o nx kp kb ks bx ups) (hn : nx ≤ nx') (h1 : o'.get kp = o.get kp) (h2 : o'.get kb = o.get kb) : ProgIn o' nx' kp kb ks bx ups := by
  have a := h.ltp; have b := h.ltb; have c := h.lts
  exact ⟨by omega, by omega, by omega, h.len, h1.trans h.row, by rw [h2]; exact h.bxr⟩
theorem ProgIn.more {o o' : Tr AObj} {nx nx' kp kb ks : Nat} {bx : List Bool} {ups : Value} (h : ProgIn o nx kp kb ks bx ups) (hn : nx ≤ nx') (hk : ∀ x, x < nx → o'.get x = o.get x) : ProgIn o' nx' kp kb ks bx ups := h.keep hn (hk _ h.ltp) (hk _ h.ltb)
/-- the law's frame, as cells: of function 0, its closure's number, its slots -/
abbrev frC (cl : Int) (sa c : Nat) : List Value := [.int .u8 1, .int .i64 0, .int .i64 cl, .int .i64 0, .slice (some ⟨sa, 0, none⟩) 5 c, .slice none 0 0, .slice none 0 0, .slice none 0 0, .int .i64 0, .slice none 0 0, .bool false, .int .i64 0]
abbrev frV (cl : Int) (sa c : Nat) : Value := .agg #[.int .u8 1, .int .i64 0, .int .i64 cl, .int .i64 0, .slice (some ⟨sa, 0, none⟩) 5 c, .slice none 0 0, .slice none 0 0, .slice none 0 0, .int .i64 0, .slice none 0 0, .bool false, .int .i64 0]
section
variable {O : Helps} {n : Nat} {o : Tr AObj} {nx : Nat} {lg : List Nat} {kp kb ks : Nat} {bx : List Bool} {ups : Value} {cl : Int} {sa c : Nat}
set_option maxHeartbeats 8000000 in
theorem fright_ok (hO : Clear O) (h : ProgIn o nx kp kb ks bx ups) (hcl : 1 ≤ cl) : oCall Try.prog [] O (n + 1) 10 [pV kp, frV cl sa c] ⟨o, nx, lg⟩ = some (.bool true, ⟨o, nx, lg⟩) := by
  refine of_got ?_
  have hrow := h.row
  have hltp := h.ltp
  have hd : decide (cl < 1) = false := decide_eq_false (by omega)
  have l1 : decide (Int.ofNat 2 ≤ 0) = false := by decide
  have l2 : decide (0 < Int.ofNat 1) = true := by decide
  have l3 : decide (Int.ofNat 5 = 5) = true := by decide
  have l4 : Nat.blt 0 2 = true := rfl
  rw [y_fn (rs := [.tmp 4]) (hO _ (by decide)) Try.func10 rfl (by kernel_rfl) rfl rfl]
  repeat (first | with_reducible (first | refine n_on ?_ | refine n_seq ?_ | refine s_else ?_ | refine n_t ?_ | refine n_gt ?_ | refine d_t ?_ | refine n_nil ?_ | refine d_nil ?_ | refine n_block ?_ | refine n_skip ?_ | refine n_bon ?_ | refine n_bback ?_ | refine n_back ?_ | refine n_out ?_ | refine n_bout rfl ?_ | refine n_bfar rfl ?_ | refine n_ret ?_ | refine n_exit ?_ | refine n_label ?_ | refine n_scope ?_ | refine n_son ?_ | refine n_sback ?_) | (with_reducible (first | apply n_region | apply d_region); (simp only [JV, JU, JW, Nat.reduceAdd, Nat.zero_add]; exact rfl)) | (with_reducible (first | apply s_op | apply n_guard | apply n_cond | apply d_guard | apply d_op | apply n_fin | apply n_finb); (simp (maxDischargeDepth := 6) only [sy3.1, zY, qG, qP, qQ, qR, qS, qT, rowAt, ↓jg, ↓ji, Nat.reduceAdd, Nat.reduceEqDiff, ne_eq, jG, Nat.reduceLT, if_true, ite_true, Int.reduceLE, Int.reduceLT, Int.reduceEq, Int.reduceNeg, Int.reduceAdd, Nat.reduceSub, if_false, ite_false, fs_10.1, pV, frV, hrow, hltp, hd, indexAt, Option.isNone_none, l1, l2, l3, l4, Nat.zero_mul, cut_twelve, kind_pure, kind_load, kind_fresh, kind_other, jg, ji, undef]; first | exact rfl | exact ⟨rfl, rfl, rfl, rfl⟩); try (with_reducible refine calmK_in ?_; decide +kernel)))
  try exact Ja (by rfl) (by rfl)
/-- the frame where its variable stands -/
structure FrIn (o : Tr AObj) (nx kf : Nat) (cl : Int) (sa c : Nat) (sv : List VV) : Prop where
  ltf : kf < nx
  lts : sa < nx
  ne : sa ≠ kf
  row : ∃ z, o.get kf = some (.row (frC cl sa c) 29 z true)
  slots : ∃ rest, o.get sa = some (.row (vvCells sv ++ rest) 41 2 true)
  len : sv.length = 5
  cl1 : 1 ≤ cl
theorem FrIn.keep {o o' : Tr AObj} {nx nx' kf : Nat} {sv : List VV} (h : FrIn o nx kf cl sa c sv) (hn : nx ≤ nx') (h1 : o'.get kf = o.get kf) (h2 : o'.get sa = o.get sa) : FrIn o' nx' kf cl sa c sv := by
  have a := h.ltf; have b := h.lts
  exact ⟨by omega, by omega, h.ne, by rw [h1]; exact h.row, by rw [h2]; exact h.slots, h.len, h.cl1⟩
theorem FrIn.more {o o' : Tr AObj} {nx nx' kf : Nat} {sv : List VV} (h : FrIn o nx kf cl sa c sv) (hn : nx ≤ nx') (hk : ∀ x, x < nx → o'.get x = o.get x) : FrIn o' nx' kf cl sa c sv := h.keep hn (hk _ h.ltf) (hk _ h.lts)
set_option maxHeartbeats 8000000 in
theorem fslot_ok (hO : Clear O) (h : ProgIn o nx kp kb ks bx ups) {kf : Nat} {sv : List VV} (hf : FrIn o nx kf cl sa c sv) {k : Nat} (hk : k < 5) :
    oCall Try.prog [] O (n + 2) 46 [pV kp, .pointer (some ⟨kf, 0, none⟩), .int .i64 (.ofNat k)] ⟨o, nx, lg⟩ = some (.tuple #[vv (sv.getD k (0, 0)), .bool (bx.getD k false), .bool true], ⟨o, nx, lg⟩) := by
  refine of_got ?_
  have hrow := h.row
  have hltp := h.ltp
  have hltb := h.ltb
  have hlen := h.len
  have hls := hf.len
  have hltf := hf.ltf
  have hlts := hf.lts
  obtain ⟨restb, hbr⟩ := h.bxr
  obtain ⟨zf, hfr⟩ := hf.row
  obtain ⟨rests, hsr⟩ := hf.slots
  have l4 : Nat.blt 0 2 = true := rfl
  have l5 : Nat.blt k 5 = true := by rw [Nat.blt_eq]; exact hk
  have d0 : decide (Int.ofNat k < 0) = false := decide_eq_false (by simp only [Int.ofNat_eq_natCast]; omega)
  have d5 : decide (5 ≤ k) = false := decide_eq_false (by omega)
  have hc := vv_cut (l := sv) (k := k) (by omega) rests
  have hg : sv[k]'(by omega) = sv.getD k (0, 0) := by simp [List.getD, show k < sv.length from by omega]
  rw [hg] at hc
  have hb : (bx.map Value.bool ++ restb)[k]? = some (.bool (bx.getD k false)) := by
    rw [List.getElem?_append_left (by simpa using (by omega : k < bx.length)), List.getElem?_map, List.getElem?_eq_getElem (by omega)]
    simp [List.getD, show k < bx.length from by omega]
  have hR := fun (X Y : AObj) (q : Nat) (lg : List Nat) => fright_ok (n := n) (lg := lg) (cl := cl) (sa := sa) (c := c) hO (h.more (o' := (o.put nx (some X)).put (nx + 1) (some Y)) (nx' := nx + q + 1) (by omega) fun x hx => by (repeat (first | rw [qE] | rw [qF _ _ _ _ (by omega)]))) hf.cl1
  rw [y_fn (rs := [.cell 6 41, .tmp 7, .tmp 8]) (hO _ (by decide)) Try.func46 rfl (by kernel_rfl) rfl rfl]
  repeat (first | with_reducible (first | refine n_on ?_ | refine n_seq ?_ | refine s_else ?_ | refine n_t ?_ | refine n_gt ?_ | refine d_t ?_ | refine n_nil ?_ | refine d_nil ?_ | refine n_block ?_ | refine n_skip ?_ | refine n_bon ?_ | refine n_bback ?_ | refine n_back ?_ | refine n_out ?_ | refine n_bout rfl ?_ | refine n_bfar rfl ?_ | refine n_ret ?_ | refine n_exit ?_ | refine n_label ?_ | refine n_scope ?_ | refine n_son ?_ | refine n_sback ?_) | (with_reducible (first | apply n_region | apply d_region); (simp only [JV, JU, JW, Nat.reduceAdd, Nat.zero_add]; exact rfl)) | (with_reducible (first | apply s_op | apply n_guard | apply n_cond | apply d_guard | apply d_op | apply n_fin | apply n_finb); (simp (maxDischargeDepth := 6) only [sy3.1, zY, qG, qP, qQ, qR, qS, qT, rowAt, ↓jg, ↓ji, Nat.reduceAdd, Nat.reduceEqDiff, ne_eq, jG, Nat.reduceLT, if_true, ite_true, Int.reduceLE, Int.reduceLT, Int.reduceEq, Int.reduceNeg, Int.reduceAdd, Nat.reduceSub, if_false, ite_false, fs_46.1, pV, frC, frV, vv, hrow, hltp, hltb, hltf, hlts, hbr, hfr, hsr, hc, hb, d0, d5, hR, indexAt, Option.isNone_none, l4, l5, Nat.zero_mul, Nat.mul_one, cut_twelve, kind_pure, kind_load, kind_fresh, kind_other, jg, ji, undef]; first | exact rfl | exact ⟨rfl, rfl, rfl, rfl⟩); try (with_reducible refine calmK_in ?_; decide +kernel)))
  · refine calm_in ?_
    have f1 : Nat.beq kb (nx + 1) = false := beqf (by omega)
    have f2 : Nat.beq kp (nx + 1) = false := beqf (by omega)
    have f3 : Nat.beq kf (nx + 1) = false := beqf (by omega)
    have f4 : Nat.beq sa (nx + 1) = false := beqf (by omega)
    have f5 : Nat.beq nx (nx + 1) = false := beqf (by omega)
    simp only [List.mem_cons, List.not_mem_nil, or_false, forall_eq_or_imp, forall_eq, zN, zS, Jn, List.any_nil, f1, f2, f3, f4, f5, Bool.or_self, and_self]
  repeat (first | with_reducible (first | refine n_on ?_ | refine n_seq ?_ | refine s_else ?_ | refine n_t ?_ | refine n_gt ?_ | refine d_t ?_ | refine n_nil ?_ | refine d_nil ?_ | refine n_block ?_ | refine n_skip ?_ | refine n_bon ?_ | refine n_bback ?_ | refine n_back ?_ | refine n_out ?_ | refine n_bout rfl ?_ | refine n_bfar rfl ?_ | refine n_ret ?_ | refine n_exit ?_ | refine n_label ?_ | refine n_scope ?_ | refine n_son ?_ | refine n_sback ?_) | (with_reducible (first | apply n_region | apply d_region); (simp only [JV, JU, JW, Nat.reduceAdd, Nat.zero_add]; exact rfl)) | (with_reducible (first | apply s_op | apply n_guard | apply n_cond | apply d_guard | apply d_op | apply n_fin | apply n_finb); (simp (maxDischargeDepth := 6) only [sy3.1, zY, qG, qP, qQ, qR, qS, qT, rowAt, ↓jg, ↓ji, Nat.reduceAdd, Nat.reduceEqDiff, ne_eq, jG, Nat.reduceLT, if_true, ite_true, Int.reduceLE, Int.reduceLT, Int.reduceEq, Int.reduceNeg, Int.reduceAdd, Nat.reduceSub, if_false, ite_false, fs_46.1, vv, kind_pure, kind_load, kind_fresh, kind_other, jg, ji, undef]; first | exact rfl | exact ⟨rfl, rfl, rfl, rfl⟩); try (with_reducible refine calmK_in ?_; decide +kernel)))
  try exact Ja (by simp only [all_relogL, js, ju, List.all_nil, jt, Bool.and_self]) (by rfl)
end
end Go.Proofs.Ytckahbnkdiamjaa
