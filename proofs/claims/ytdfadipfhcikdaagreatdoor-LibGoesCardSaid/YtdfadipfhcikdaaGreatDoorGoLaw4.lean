/- LibGoes: the walk with next: one round. -/
import Derived.Test.YtdfadipfhcikdaaGreatDoorGoLaw3
namespace Go.Proofs.YtdfadipfhcikdaaGreatDoor
open Go.RowKit
set_option linter.unusedSimpArgs false
set_option linter.unusedVariables false
set_option maxRecDepth 100000

def goL2 (f : Func) : Code := lpIn (blkIn (sqR (sqL (goR2 f))))
def goB3 (f : Func) : Code := sqL (sqR (goL2 f))
def kAt (ks : List Nat) (r : Nat) : VV := if r = 0 then (0, 0) else (3, Int.ofNat ((ks[r - 1]?).getD 0) + 1)
theorem kAt_succ {ks : List Nat} {r k : Nat} (h : ks[r]? = some k) : kAt ks (r + 1) = (3, Int.ofNat k + 1) := by simp [kAt, h]
theorem next_at {ks : List Nat} (hn : ks.Nodup) {r : Nat} (hr : r ≤ ks.length) : nextL (entK ks) (kAt ks r) = nxt ks r := by
  unfold kAt
  by_cases h : r = 0
  · rw [if_pos h, h]; exact next_K0 ks
  · rw [if_neg h]
    have h1 : ks[r - 1]? = some ks[r - 1] := List.getElem?_eq_getElem (by omega)
    rw [h1]
    have := next_K hn h1
    rw [show r - 1 + 1 = r by omega] at this
    exact this
theorem nxt_go {ks : List Nat} {r k : Nat} (h : ks[r]? = some k) : nxt ks r = ((3, Int.ofNat k + 1), (3, Int.ofNat k + 50), 0) := by simp [nxt, h]
theorem nxt_end {ks : List Nat} {r : Nat} (h : ks[r]? = none) : nxt ks r = ((0, 0), (0, 0), 0) := by simp [nxt, h]
theorem take_wantL {ks : List Nat} {r k : Nat} (h : ks[r]? = some k) : wantL (ks.take (r + 1)) = wantL (ks.take r) ++ [(3, Int.ofNat k + 1), (3, Int.ofNat k + 50)] := by
  rw [List.take_add_one, h]; exact wantL_app _ _
theorem cut4a {a b c d : Value} : cut [a, b, c, d] 0 2 = some [a, b] := rfl
section
variable {O : Helps} {n : Nat} {o : Tr AObj} {nx : Nat} {lg : List Nat} {w : Nat → Nat} {B : HB}
/-- a round of the walk leaves this -/
def RoundTo (bs : List Bool) (bi b5 : Nat) (ks : List Nat) (rw r : Nat) (v : VV) (e : Tr Value) (way : Way) (s : St) : Prop :=
  ∃ e' H', s = (way, e', H') ∧ e'.get 14 = e.get 14 ∧ MidSt bs bi b5 ks rw r v e' H'
set_option maxHeartbeats 64000000 in
theorem go_b3_end (hO : Clear O) {bs : List Bool} {bi b5 r rw : Nat} {ks : List Nat} {e : Tr Value} {H : AHeap} (hnd : ks.Nodup) (hl : ks.length ≤ 100) (h : MidSt bs bi b5 ks rw r (kAt ks r) e H) (hr : r = ks.length) :
    Got (rCode Tryz.prog (oCall Tryz.prog [] O 9999) 9999 (goB3 Tryz.f3) e H) (RoundTo bs bi b5 ks rw r (kAt ks r) e (.out 2)) := by
  obtain ⟨o, nx, lg, w, B, a7, b, q0, b13, a12, rfl, L, E, g11, g12, g13⟩ := h
  have M := L.M
  have g3 := E.g3; have g5 := E.g5; have g7 := E.g7; have g8 := E.g8
  have r5 := M.r5; have lt5 := M.lt5; have r11 := L.r11; have rq := L.rq; have r13 := L.r13; have l11 := L.l11; have lq := L.lq; have l13 := L.l13
  have hx : nextL (obG ks).tab ((kAt ks r).1, (kAt ks r).2) = ((0, 0), (0, 0), 0) := (next_at hnd (by omega)).trans (nxt_end (List.getElem?_eq_none (by omega)))
  have hle := entK_len ks
  refine n_block ?_
  repeat (first | with_reducible (first | refine n_on ?_ | refine n_seq ?_ | refine s_else ?_ | refine n_t ?_ | refine n_gt ?_ | refine d_t ?_ | refine n_nil ?_ | refine d_nil ?_ | refine n_block ?_ | refine n_skip ?_ | refine n_bon ?_ | refine n_bback ?_ | refine n_back ?_ | refine n_out ?_ | refine n_bout rfl ?_ | refine n_bfar rfl ?_ | refine n_ret ?_ | refine n_exit ?_ | refine n_label ?_ | refine n_scope ?_ | refine n_son ?_ | refine n_sback ?_) | (with_reducible (first | apply n_region | apply d_region); (simp only [JV, JU, JW, Nat.reduceAdd, Nat.zero_add]; exact rfl)) | (with_reducible (first | apply s_op | apply n_guard | apply n_cond | apply d_guard | apply d_op | apply n_fin | apply n_finb); (simp (maxDischargeDepth := 6) only [sy3.1, zY, qG, qP, qQ, qR, qS, qT, rowAt, ↓jg, ↓ji, Nat.reduceAdd, Nat.reduceEqDiff, ne_eq, jG, Nat.reduceLT, if_true, ite_true, Int.reduceLE, Int.reduceLT, Int.reduceEq, Int.reduceNeg, Int.reduceAdd, Nat.reduceSub, if_false, ite_false, fs_3.1, g3, g5, g11, g12, g13, r5, lt5, r11, rq, r13, l11, lq, l13, ix30, bs2, st_buildSliceV, kind_pure, kind_load, kind_fresh, kind_other, jg, ji, undef]; first | exact rfl | exact ⟨rfl, rfl, rfl, rfl⟩); try (with_reducible refine calmK_in ?_; decide +kernel)))
  refine d_do (DoneTo _ (nx + 12) [] [(0, 0)]) 3 (by
    simp (maxDischargeDepth := 6) only [sy3.1, zY, qG, qP, qQ, qR, qS, qT, rowAt, ↓jg, ↓ji, Nat.reduceAdd, Nat.reduceEqDiff, ne_eq, jG, Nat.reduceLT, if_true, ite_true, Int.reduceLE, Int.reduceLT, Int.reduceEq, Int.reduceNeg, Int.reduceAdd, Nat.reduceSub, if_false, ite_false, fs_3.1, g3, ← M.hB]
    exact call_next_end (n := 9991) hO (M.heap.more (by omega) fun x hx => by (repeat (first | rw [qE] | rw [qF _ _ _ _ (by omega)]))) (by omega) (qE _ _ _) rfl rfl (by show (entK ks).length ≤ _; omega) (by show (entK ks).length < _; omega) hx rfl) ?_ (by decide +kernel) ?_
  · exact done_kind rfl (Nat.le_refl _)
  rintro v1 o1 nx1 l1 ⟨q, _, _, heq, hq, hq2, hrq, hfr⟩ cl
  cases heq
  have hrq' : o1.get q = some (.row [.int .u8 0, .int .i64 0] 29 2 true) := hrq
  have hq57 : q ≠ nx + 10 := by omega
  have d10 : decide (Int.ofNat 1 = 0) = false := rfl
  have d11 : decide ((1 : Int) = 1) = true := rfl
  have d00 : decide ((0 : Int) = 0) = true := rfl
  repeat (first | with_reducible (first | refine n_on ?_ | refine n_seq ?_ | refine s_else ?_ | refine n_t ?_ | refine n_gt ?_ | refine d_t ?_ | refine n_nil ?_ | refine d_nil ?_ | refine n_block ?_ | refine n_skip ?_ | refine n_bon ?_ | refine n_bback ?_ | refine n_back ?_ | refine n_out ?_ | refine n_bout rfl ?_ | refine n_bfar rfl ?_ | refine n_ret ?_ | refine n_exit ?_ | refine n_label ?_ | refine n_scope ?_ | refine n_son ?_ | refine n_sback ?_) | (with_reducible (first | apply n_region | apply d_region); (simp only [JV, JU, JW, Nat.reduceAdd, Nat.zero_add]; exact rfl)) | (with_reducible (first | apply s_op | apply n_guard | apply n_cond | apply d_guard | apply d_op | apply n_fin | apply n_finb); (simp (maxDischargeDepth := 6) only [sy3.1, zY, qG, qP, qQ, qR, qS, qT, rowAt, ↓jg, ↓ji, Nat.reduceAdd, Nat.reduceEqDiff, ne_eq, jG, Nat.reduceLT, if_true, ite_true, Int.reduceLE, Int.reduceLT, Int.reduceEq, Int.reduceNeg, Int.reduceAdd, Nat.reduceSub, if_false, ite_false, fs_3.1, g3, hrq', toldV, ix10, d10, d11, d00, hq57, kind_pure, kind_load, kind_fresh, kind_other, jg, ji, undef]; first | exact rfl | exact ⟨rfl, rfl, rfl, rfl⟩); try (with_reducible refine calmK_in ?_; decide +kernel)))
  refine ⟨_, _, rfl, by simp only [qC, qD, qE, qF, Tr.get_nil, ne_eq, not_false_eq_true, Nat.reduceEqDiff], _, _, _, w, B, a7, b, q0, b13, a12, rfl, L.more (by omega) fun x hx => ?_, ⟨?_, ?_, ?_, ?_⟩, ?_, ?_, ?_⟩
  · (repeat (first | rw [qE] | rw [qF _ _ _ _ (by omega)])); rw [hfr x (by omega)]; (repeat (first | rw [qE] | rw [qF _ _ _ _ (by omega)]))
  all_goals simp only [qC, qD, qE, qF, Tr.get_nil, ne_eq, not_false_eq_true, Nat.reduceEqDiff, g3, g5, g7, g8, g11, g12, g13]
set_option maxHeartbeats 64000000 in
theorem go_b3_go (hO : Clear O) {bs : List Bool} {bi b5 r rw k : Nat} {ks : List Nat} {e : Tr Value} {H : AHeap} (hnd : ks.Nodup) (hl : ks.length ≤ 100) (h : MidSt bs bi b5 ks rw r (kAt ks r) e H) (hk : ks[r]? = some k) :
    Got (rCode Tryz.prog (oCall Tryz.prog [] O 9999) 9999 (goB3 Tryz.f3) e H) (RoundTo bs bi b5 ks rw (r + 1) (kAt ks (r + 1)) e .on) := by
  obtain ⟨o, nx, lg, w, B, a7, b, q0, b13, a12, rfl, L, E, g11, g12, g13⟩ := h
  have M := L.M
  have g3 := E.g3; have g5 := E.g5; have g7 := E.g7; have g8 := E.g8
  have r5 := M.r5; have lt5 := M.lt5; have r11 := L.r11; have rq := L.rq; have r13 := L.r13; have l11 := L.l11; have lq := L.lq; have l13 := L.l13
  have hr : r < ks.length := (List.getElem?_eq_some_iff.1 hk).1
  have hx : nextL (obG ks).tab ((kAt ks r).1, (kAt ks r).2) = ((3, Int.ofNat k + 1), (3, Int.ofNat k + 50), 0) := (next_at hnd (by omega)).trans (nxt_go hk)
  have hle := entK_len ks
  have htk : (ks.take r).length = r := by rw [List.length_take]; omega
  have hva := kAt_succ hk
  refine n_block ?_
  repeat (first | with_reducible (first | refine n_on ?_ | refine n_seq ?_ | refine s_else ?_ | refine n_t ?_ | refine n_gt ?_ | refine d_t ?_ | refine n_nil ?_ | refine d_nil ?_ | refine n_block ?_ | refine n_skip ?_ | refine n_bon ?_ | refine n_bback ?_ | refine n_back ?_ | refine n_out ?_ | refine n_bout rfl ?_ | refine n_bfar rfl ?_ | refine n_ret ?_ | refine n_exit ?_ | refine n_label ?_ | refine n_scope ?_ | refine n_son ?_ | refine n_sback ?_) | (with_reducible (first | apply n_region | apply d_region); (simp only [JV, JU, JW, Nat.reduceAdd, Nat.zero_add]; exact rfl)) | (with_reducible (first | apply s_op | apply n_guard | apply n_cond | apply d_guard | apply d_op | apply n_fin | apply n_finb); (simp (maxDischargeDepth := 6) only [sy3.1, zY, qG, qP, qQ, qR, qS, qT, rowAt, ↓jg, ↓ji, Nat.reduceAdd, Nat.reduceEqDiff, ne_eq, jG, Nat.reduceLT, if_true, ite_true, Int.reduceLE, Int.reduceLT, Int.reduceEq, Int.reduceNeg, Int.reduceAdd, Nat.reduceSub, if_false, ite_false, fs_3.1, g3, g5, g11, g12, g13, r5, lt5, r11, rq, r13, l11, lq, l13, ix30, bs2, st_buildSliceV, kind_pure, kind_load, kind_fresh, kind_other, jg, ji, undef]; first | exact rfl | exact ⟨rfl, rfl, rfl, rfl⟩); try (with_reducible refine calmK_in ?_; decide +kernel)))
  refine d_do (DoneTo _ (nx + 12) [] [(3, Int.ofNat k + 1), (3, Int.ofNat k + 50)]) 3 (by
    simp (maxDischargeDepth := 6) only [sy3.1, zY, qG, qP, qQ, qR, qS, qT, rowAt, ↓jg, ↓ji, Nat.reduceAdd, Nat.reduceEqDiff, ne_eq, jG, Nat.reduceLT, if_true, ite_true, Int.reduceLE, Int.reduceLT, Int.reduceEq, Int.reduceNeg, Int.reduceAdd, Nat.reduceSub, if_false, ite_false, fs_3.1, g3, ← M.hB]
    exact call_next_go (n := 9991) hO (M.heap.more (by omega) fun x hx => by (repeat (first | rw [qE] | rw [qF _ _ _ _ (by omega)]))) (by omega) (qE _ _ _) rfl rfl (by show (entK ks).length ≤ _; omega) (by show (entK ks).length < _; omega) hx (by decide)) ?_ (by decide +kernel) ?_
  · exact done_kind rfl (Nat.le_refl _)
  rintro v1 o1 nx1 l1 ⟨q, _, _, heq, hq, hq2, hrq, hfr⟩ cl
  cases heq
  have hrq' : o1.get q = some (.row [.int .u8 3, .int .i64 (Int.ofNat k + 1), .int .u8 3, .int .i64 (Int.ofNat k + 50)] 29 2 true) := hrq
  have hq57 : q ≠ nx + 10 := by omega
  have d10 : decide (Int.ofNat 2 = 0) = false := rfl
  have d11 : decide ((1 : Int) = 1) = true := rfl
  have d00 : decide ((3 : Int) = 0) = false := rfl
  have f13 : o1.get b13 = some (.row [.int .u8 (kAt ks r).1, .int .i64 (kAt ks r).2] 29 0 true) := by rw [hfr b13 (by omega)]; (repeat (first | rw [qE] | rw [qF _ _ _ _ (by omega)])); exact r13
  have lt13 : b13 < nx1 := by omega
  have hb13 : b13 ≠ nx + 10 := by omega
  have l10 : nx + 10 < nx1 := by omega
  rcases L.a with ⟨rfl, hr0⟩ | ⟨j, rfl, hjlt, hjn, hj13, hjr⟩
  · subst hr0
    have han := vapp2_nil (a := .int .u8 3) (b := .int .i64 (Int.ofNat k + 1)) (c := .int .u8 3) (d := .int .i64 (Int.ofNat k + 50))
    repeat (first | with_reducible (first | refine n_on ?_ | refine n_seq ?_ | refine s_else ?_ | refine n_t ?_ | refine n_gt ?_ | refine d_t ?_ | refine n_nil ?_ | refine d_nil ?_ | refine n_block ?_ | refine n_skip ?_ | refine n_bon ?_ | refine n_bback ?_ | refine n_back ?_ | refine n_out ?_ | refine n_bout rfl ?_ | refine n_bfar rfl ?_ | refine n_ret ?_ | refine n_exit ?_ | refine n_label ?_ | refine n_scope ?_ | refine n_son ?_ | refine n_sback ?_) | (with_reducible (first | apply n_region | apply d_region); (simp only [JV, JU, JW, Nat.reduceAdd, Nat.zero_add]; exact rfl)) | (with_reducible (first | apply s_op | apply n_guard | apply n_cond | apply d_guard | apply d_op | apply n_fin | apply n_finb); (simp (maxDischargeDepth := 6) only [sy3.1, zY, qG, qP, qQ, qR, qS, qT, rowAt, ↓jg, ↓ji, Nat.reduceAdd, Nat.reduceEqDiff, ne_eq, jG, Nat.reduceLT, if_true, ite_true, Int.reduceLE, Int.reduceLT, Int.reduceEq, Int.reduceNeg, Int.reduceAdd, Nat.reduceSub, if_false, ite_false, fs_3.1, g3, g12, g13, hrq', toldV, ix20, d10, d11, d00, hq57, f13, lt13, hb13, l10, hq2, cut4a, slA, Option.map_none, Option.map_some, Nat.mul_zero, han, kind_pure, kind_load, kind_fresh, kind_other, jg, ji, undef]; first | exact rfl | exact ⟨rfl, rfl, rfl, rfl⟩); try (with_reducible refine calmK_in ?_; decide +kernel)))
    refine ⟨_, _, rfl, by simp only [qC, qD, qE, qF, Tr.get_nil, ne_eq, not_false_eq_true, Nat.reduceEqDiff], _, _, _, w, B, a7, b, q0, b13, some (nx1 + 18), rfl, L.turn (by omega) (by omega) (by omega) (fun x hx hx13 hxa => ?_) ?_ ?_, ⟨?_, ?_, ?_, ?_⟩, ?_, ?_, ?_⟩
    · (repeat (first | rw [qE] | rw [qF _ _ _ _ (by omega)])); rw [hfr x (by omega)]; (repeat (first | rw [qE] | rw [qF _ _ _ _ (by omega)]))
    · rw [hva]; (repeat (first | rw [qE] | rw [qF _ _ _ _ (by omega)]))
    · (repeat (first | rw [qE] | rw [qF _ _ _ _ (by omega)])); rw [take_wantL hk, vv_app]; rfl
    all_goals simp only [qC, qD, qE, qF, Tr.get_nil, ne_eq, not_false_eq_true, Nat.reduceEqDiff, g3, g5, g7, g8, g11, g12, g13, slA, Option.map_some]
  · have hap := vapp2_row (a := .int .u8 3) (b := .int .i64 (Int.ofNat k + 1)) (c := .int .u8 3) (d := .int .i64 (Int.ofNat k + 50)) (by rfl) (olds := vvCells (wantL (ks.take r))) (m := 2 * r) (j := j) (by rw [vv_len, wantL_len, htk]) (by omega)
    have fj : o1.get j = some (.row (vvCells (wantL (ks.take r))) 29 2 true) := by rw [hfr j (by omega)]; (repeat (first | rw [qE] | rw [qF _ _ _ _ (by omega)])); exact hjr
    have hj57 : j ≠ nx + 10 := by omega
    have hjl1 : j < nx1 := by omega
    have hqj : q ≠ j := by omega
    have hj10 : nx + 10 ≠ j := by omega
    have hb13j : b13 ≠ j := fun e => hj13 e.symm
    repeat (first | with_reducible (first | refine n_on ?_ | refine n_seq ?_ | refine s_else ?_ | refine n_t ?_ | refine n_gt ?_ | refine d_t ?_ | refine n_nil ?_ | refine d_nil ?_ | refine n_block ?_ | refine n_skip ?_ | refine n_bon ?_ | refine n_bback ?_ | refine n_back ?_ | refine n_out ?_ | refine n_bout rfl ?_ | refine n_bfar rfl ?_ | refine n_ret ?_ | refine n_exit ?_ | refine n_label ?_ | refine n_scope ?_ | refine n_son ?_ | refine n_sback ?_) | (with_reducible (first | apply n_region | apply d_region); (simp only [JV, JU, JW, Nat.reduceAdd, Nat.zero_add]; exact rfl)) | (with_reducible (first | apply s_op | apply n_guard | apply n_cond | apply d_guard | apply d_op | apply n_fin | apply n_finb); (simp (maxDischargeDepth := 6) only [sy3.1, zY, qG, qP, qQ, qR, qS, qT, rowAt, ↓jg, ↓ji, Nat.reduceAdd, Nat.reduceEqDiff, ne_eq, jG, Nat.reduceLT, if_true, ite_true, Int.reduceLE, Int.reduceLT, Int.reduceEq, Int.reduceNeg, Int.reduceAdd, Nat.reduceSub, if_false, ite_false, fs_3.1, g3, g12, g13, hrq', toldV, ix20, d10, d11, d00, hq57, f13, lt13, hb13, l10, hq2, cut4a, slA, Option.map_none, Option.map_some, Nat.mul_zero, hap, fj, hj57, hjl1, hqj, hb13j, hj10, kind_pure, kind_load, kind_fresh, kind_other, jg, ji, undef]; first | exact rfl | exact ⟨rfl, rfl, rfl, rfl⟩); try (with_reducible refine calmK_in ?_; decide +kernel)))
    refine ⟨_, _, rfl, by simp only [qC, qD, qE, qF, Tr.get_nil, ne_eq, not_false_eq_true, Nat.reduceEqDiff], _, _, _, w, B, a7, b, q0, b13, some (nx1 + 18), rfl, L.turn (by omega) (by omega) (by omega) (fun x hx hx13 hxa => ?_) ?_ ?_, ⟨?_, ?_, ?_, ?_⟩, ?_, ?_, ?_⟩
    · have e3 : x ≠ j := fun ee => hxa (by rw [ee])
      (repeat (first | rw [qE] | rw [qF _ _ _ _ (by omega)])); rw [hfr x (by omega)]; (repeat (first | rw [qE] | rw [qF _ _ _ _ (by omega)]))
    · rw [hva]; (repeat (first | rw [qE] | rw [qF _ _ _ _ (by omega)]))
    · (repeat (first | rw [qE] | rw [qF _ _ _ _ (by omega)])); rw [take_wantL hk, vv_app]; rfl
    all_goals simp only [qC, qD, qE, qF, Tr.get_nil, ne_eq, not_false_eq_true, Nat.reduceEqDiff, g3, g5, g7, g8, g11, g12, g13, slA, Option.map_some]
    rfl
end
end Go.Proofs.YtdfadipfhcikdaaGreatDoor
