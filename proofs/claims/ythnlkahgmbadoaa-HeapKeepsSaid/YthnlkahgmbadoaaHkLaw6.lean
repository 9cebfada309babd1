/- HeapKeeps: a round: its first lines, the range over what is there, its end. -/
import Derived.Test.YthnlkahgmbadoaaHkLaw5
import Derived.Test.YthnlkahgmbadoaaNd
namespace Go.Proofs.Ythnlkahgmbadoaa
open Go.RowKit
set_option linter.unusedSimpArgs false
set_option linter.unusedVariables false
set_option maxRecDepth 100000

noncomputable abbrev hkNt : Nat := (Try.f4).ntmps
set_option maxHeartbeats 16000000 in
theorem hk_pre {zs : List (List Value)} {L : HkB} {oa : Option Addr} {cnt i : Nat} {e : Tr Value} {o : Tr AObj} {nx : Nat} {lg : List Nat} {w : Nat → Nat} {B : HB} {hs : HS} {es : List MapEntry} {c : Nat} {sl : Value} {ls : List VV} {Q : St → Prop} (M : HkIn zs L cnt o nx w B hs es c sl ls) (E : HkE zs.length L oa i sl e)
    (hoa : oa = some ⟨0, 0, none⟩) (hzl : ∀ z ∈ zs, z.length = 6) {k a b c' n : Int} {s : ByteArray} (hz : zs[i]? = some (opCells k a b c' n s)) (hi : i < 150) (hcnt : cnt ≤ 150)
    (hQ : ∀ e' o' nx' lg', (∀ x, x < nx → o'.get x = o.get x) → nx ≤ nx' → HkE zs.length L oa i sl e' → (∃ at', HkMid (opCells k a b c' n s) i at' nx o' nx' w hs e') → Holds Try.prog hkNt (sqR (sqR (sqR (sqR (sqR (hkB1 Try.f4)))))) e' ⟨o', nx', lg'⟩ Q) :
    Holds Try.prog hkNt (hkB1 Try.f4) e ⟨o, nx, lg⟩ Q := by
  have g0 := E.g0; have g3 := E.g3; have g5 := E.g5; have g6 := E.g6; have g7 := E.g7; have g8 := E.g8
  subst hoa
  have hrow := M.row
  have hin := (List.getElem?_eq_some_iff.1 hz).1
  have l1 : Nat.blt i zs.length = true := by rw [Nat.blt_eq]; exact hin
  have hc1 := rows_cut hzl hz
  have hw1 : IntKind.i64.wrap (Int.ofNat i + 1) = Int.ofNat (i + 1) := by rw [wrap_small _ (by simp only [Int.ofNat_eq_natCast]; omega) (by simp only [Int.ofNat_eq_natCast]; omega)]; rfl
  unfold opCells at hc1 hz hQ
  show Holds _ _ (Code.seq _ (Code.seq _ (Code.seq _ (Code.seq _ (Code.seq _ (sqR (sqR (sqR (sqR (sqR (hkB1 Try.f4))))))))))) _ _ _
  generalize sqR (sqR (sqR (sqR (sqR (hkB1 Try.f4))))) = R at hQ ⊢
  have hseen := M.want
  have hml := M.ltm
  have hnew : ∀ q, nx ≤ q → w q = 0 := fun q hq => by
    by_cases e : w q = 0
    · exact e
    · have := M.heap.wlt q e; omega
  have hlsn := M.lsn
  rcases M.lst with ⟨rfl, rfl⟩ | ⟨j, rfl, hj, hwj, j0, j1, j2, hjr, l0⟩
  · obtain ⟨u, hlk⟩ := want_look M.kv (0, 0) L.mw c
    have d0 : decide ((0 : Int) < Int.ofNat 0) = false := rfl
    refine holds_step hc14 mixed_ (by kernel_rfl) (fuel := 999) ?_
    repeat (first | with_reducible (first | refine n_on ?_ | refine n_seq ?_ | refine s_else ?_ | refine n_t ?_ | refine n_gt ?_ | refine d_t ?_ | refine n_nil ?_ | refine d_nil ?_ | refine n_block ?_ | refine n_skip ?_ | refine n_bon ?_ | refine n_bback ?_ | refine n_back ?_ | refine n_out ?_ | refine n_bout rfl ?_ | refine n_bfar rfl ?_ | refine n_ret ?_ | refine n_exit ?_ | refine n_label ?_ | refine n_scope ?_ | refine n_son ?_ | refine n_sback ?_) | (with_reducible (first | apply n_region | apply d_region); (simp only [JV, JU, JW, Nat.reduceAdd, Nat.zero_add]; exact rfl)) | (with_reducible (first | apply s_op | apply n_guard | apply n_cond | apply d_guard | apply d_op | apply n_fin | apply n_finb); (simp (maxDischargeDepth := 6) only [sy3.1, zY, qG, qP, qQ, qR, qS, qT, rowAt, ↓jg, ↓ji, Nat.reduceAdd, Nat.reduceEqDiff, ne_eq, jG, Nat.reduceLT, if_true, ite_true, Int.reduceLE, Int.reduceLT, Int.reduceEq, Int.reduceNeg, Int.reduceAdd, Nat.reduceSub, if_false, ite_false, fs_4.1, g0, g3, g5, g6, g7, g8, hrow, hc1, hw1, l1, indexAt, Option.isNone_none, Nat.zero_add, d0, hlk, hseen, hml, kind_pure, kind_load, kind_fresh, kind_other, jg, ji, undef]; first | exact rfl | exact ⟨rfl, rfl, rfl, rfl⟩); try (with_reducible refine calmK_in ?_; decide +kernel)))
    refine holds_step hc14 mixed_ (by kernel_rfl) (fuel := 999) ?_
    repeat (first | with_reducible (first | refine n_on ?_ | refine n_seq ?_ | refine s_else ?_ | refine n_t ?_ | refine n_gt ?_ | refine d_t ?_ | refine n_nil ?_ | refine d_nil ?_ | refine n_block ?_ | refine n_skip ?_ | refine n_bon ?_ | refine n_bback ?_ | refine n_back ?_ | refine n_out ?_ | refine n_bout rfl ?_ | refine n_bfar rfl ?_ | refine n_ret ?_ | refine n_exit ?_ | refine n_label ?_ | refine n_scope ?_ | refine n_son ?_ | refine n_sback ?_) | (with_reducible (first | apply n_region | apply d_region); (simp only [JV, JU, JW, Nat.reduceAdd, Nat.zero_add]; exact rfl)) | (with_reducible (first | apply s_op | apply n_guard | apply n_cond | apply d_guard | apply d_op | apply n_fin | apply n_finb); (simp (maxDischargeDepth := 6) only [sy3.1, zY, qG, qP, qQ, qR, qS, qT, rowAt, ↓jg, ↓ji, Nat.reduceAdd, Nat.reduceEqDiff, ne_eq, jG, Nat.reduceLT, if_true, ite_true, Int.reduceLE, Int.reduceLT, Int.reduceEq, Int.reduceNeg, Int.reduceAdd, Nat.reduceSub, if_false, ite_false, fs_4.1, g0, g3, g5, g6, g7, g8, hrow, hc1, hw1, l1, indexAt, Option.isNone_none, Nat.zero_add, d0, hlk, hseen, hml, kind_pure, kind_load, kind_fresh, kind_other, jg, ji, undef]; first | exact rfl | exact ⟨rfl, rfl, rfl, rfl⟩); try (with_reducible refine calmK_in ?_; decide +kernel)))
    refine holds_step hc14 mixed_ (by kernel_rfl) (fuel := 999) ?_
    repeat (first | with_reducible (first | refine n_on ?_ | refine n_seq ?_ | refine s_else ?_ | refine n_t ?_ | refine n_gt ?_ | refine d_t ?_ | refine n_nil ?_ | refine d_nil ?_ | refine n_block ?_ | refine n_skip ?_ | refine n_bon ?_ | refine n_bback ?_ | refine n_back ?_ | refine n_out ?_ | refine n_bout rfl ?_ | refine n_bfar rfl ?_ | refine n_ret ?_ | refine n_exit ?_ | refine n_label ?_ | refine n_scope ?_ | refine n_son ?_ | refine n_sback ?_) | (with_reducible (first | apply n_region | apply d_region); (simp only [JV, JU, JW, Nat.reduceAdd, Nat.zero_add]; exact rfl)) | (with_reducible (first | apply s_op | apply n_guard | apply n_cond | apply d_guard | apply d_op | apply n_fin | apply n_finb); (simp (maxDischargeDepth := 6) only [sy3.1, zY, qG, qP, qQ, qR, qS, qT, rowAt, ↓jg, ↓ji, Nat.reduceAdd, Nat.reduceEqDiff, ne_eq, jG, Nat.reduceLT, if_true, ite_true, Int.reduceLE, Int.reduceLT, Int.reduceEq, Int.reduceNeg, Int.reduceAdd, Nat.reduceSub, if_false, ite_false, fs_4.1, g0, g3, g5, g6, g7, g8, hrow, hc1, hw1, l1, indexAt, Option.isNone_none, Nat.zero_add, d0, hlk, hseen, hml, kind_pure, kind_load, kind_fresh, kind_other, jg, ji, undef]; first | exact rfl | exact ⟨rfl, rfl, rfl, rfl⟩); try (with_reducible refine calmK_in ?_; decide +kernel)))
    refine holds_step hc14 mixed_ (by kernel_rfl) (fuel := 999) ?_
    repeat (first | with_reducible (first | refine n_on ?_ | refine n_seq ?_ | refine s_else ?_ | refine n_t ?_ | refine n_gt ?_ | refine d_t ?_ | refine n_nil ?_ | refine d_nil ?_ | refine n_block ?_ | refine n_skip ?_ | refine n_bon ?_ | refine n_bback ?_ | refine n_back ?_ | refine n_out ?_ | refine n_bout rfl ?_ | refine n_bfar rfl ?_ | refine n_ret ?_ | refine n_exit ?_ | refine n_label ?_ | refine n_scope ?_ | refine n_son ?_ | refine n_sback ?_) | (with_reducible (first | apply n_region | apply d_region); (simp only [JV, JU, JW, Nat.reduceAdd, Nat.zero_add]; exact rfl)) | (with_reducible (first | apply s_op | apply n_guard | apply n_cond | apply d_guard | apply d_op | apply n_fin | apply n_finb); (simp (maxDischargeDepth := 6) only [sy3.1, zY, qG, qP, qQ, qR, qS, qT, rowAt, ↓jg, ↓ji, Nat.reduceAdd, Nat.reduceEqDiff, ne_eq, jG, Nat.reduceLT, if_true, ite_true, Int.reduceLE, Int.reduceLT, Int.reduceEq, Int.reduceNeg, Int.reduceAdd, Nat.reduceSub, if_false, ite_false, fs_4.1, g0, g3, g5, g6, g7, g8, hrow, hc1, hw1, l1, indexAt, Option.isNone_none, Nat.zero_add, d0, hlk, hseen, hml, kind_pure, kind_load, kind_fresh, kind_other, jg, ji, undef]; first | exact rfl | exact ⟨rfl, rfl, rfl, rfl⟩); try (with_reducible refine calmK_in ?_; decide +kernel)))
    refine holds_step hc14 mixed_ (by kernel_rfl) (fuel := 999) ?_
    repeat (first | with_reducible (first | refine n_on ?_ | refine n_seq ?_ | refine s_else ?_ | refine n_t ?_ | refine n_gt ?_ | refine d_t ?_ | refine n_nil ?_ | refine d_nil ?_ | refine n_block ?_ | refine n_skip ?_ | refine n_bon ?_ | refine n_bback ?_ | refine n_back ?_ | refine n_out ?_ | refine n_bout rfl ?_ | refine n_bfar rfl ?_ | refine n_ret ?_ | refine n_exit ?_ | refine n_label ?_ | refine n_scope ?_ | refine n_son ?_ | refine n_sback ?_) | (with_reducible (first | apply n_region | apply d_region); (simp only [JV, JU, JW, Nat.reduceAdd, Nat.zero_add]; exact rfl)) | (with_reducible (first | apply s_op | apply n_guard | apply n_cond | apply d_guard | apply d_op | apply n_fin | apply n_finb); (simp (maxDischargeDepth := 6) only [sy3.1, zY, qG, qP, qQ, qR, qS, qT, rowAt, ↓jg, ↓ji, Nat.reduceAdd, Nat.reduceEqDiff, ne_eq, jG, Nat.reduceLT, if_true, ite_true, Int.reduceLE, Int.reduceLT, Int.reduceEq, Int.reduceNeg, Int.reduceAdd, Nat.reduceSub, if_false, ite_false, fs_4.1, g0, g3, g5, g6, g7, g8, hrow, hc1, hw1, l1, indexAt, Option.isNone_none, Nat.zero_add, d0, hlk, hseen, hml, kind_pure, kind_load, kind_fresh, kind_other, jg, ji, undef]; first | exact rfl | exact ⟨rfl, rfl, rfl, rfl⟩); try (with_reducible refine calmK_in ?_; decide +kernel)))
    refine hQ _ _ _ _ (fun x hx => ?_) (by omega) ⟨?_, ?_, ?_, ?_, ?_, ?_⟩ ⟨(0, 0), ⟨⟨nx + 4, ?_, ?_, ?_, ?_⟩, ⟨nx + 9, ?_, ?_, ?_, ?_⟩, ⟨nx + 12, ?_, ?_, ?_, ?_⟩, ?_, hnew⟩⟩
    · (repeat (first | rw [qE] | rw [qF _ _ _ _ (by omega)]))
    all_goals first | (simp only [qC, qD, qE, qF, Tr.get_nil, ne_eq, not_false_eq_true, Nat.reduceEqDiff, g0, g3, g5, g6, g7, g8]; done) | (simp only [qC, qD, qE, qF, Tr.get_nil, ne_eq, not_false_eq_true, Nat.reduceEqDiff]; rfl) | omega | ((repeat (first | rw [qE] | rw [qF _ _ _ _ (by omega)])); done) | skip
  · have hp := pickI_in a (n := Int.ofNat ls.length) (by simp only [Int.ofNat_eq_natCast]; omega)
    obtain ⟨m, hm⟩ : ∃ m : Nat, pickI a (Int.ofNat ls.length) = Int.ofNat m := ⟨(pickI a (Int.ofNat ls.length)).toNat, by simp only [Int.ofNat_eq_natCast] at hp ⊢; omega⟩
    have hml2 : m < ls.length := by rw [hm] at hp; simp only [Int.ofNat_eq_natCast] at hp; omega
    have hpk := fun (o : Tr AObj) nx lg => pick_ok (n := 998) (o := o) (nx := nx) (lg := lg) clear14 a (Int.ofNat ls.length) (by simp only [Int.ofNat_eq_natCast]; omega) (by simp only [Int.ofNat_eq_natCast]; omega)
    rw [hm] at hpk
    have hcv := vv_at hml2
    have l2 : Nat.blt m ls.length = true := by rw [Nat.blt_eq]; exact hml2
    obtain ⟨v, hv⟩ : ∃ v, ls[m] = v := ⟨_, rfl⟩
    rw [hv] at hcv
    obtain ⟨u, hlk⟩ := want_look M.kv v L.mw c
    have d0 : decide ((0 : Int) < Int.ofNat ls.length) = true := decide_eq_true (by simp only [Int.ofNat_eq_natCast]; omega)
    refine holds_step hc14 mixed_ (by kernel_rfl) (fuel := 999) ?_
    repeat (first | with_reducible (first | refine n_on ?_ | refine n_seq ?_ | refine s_else ?_ | refine n_t ?_ | refine n_gt ?_ | refine d_t ?_ | refine n_nil ?_ | refine d_nil ?_ | refine n_block ?_ | refine n_skip ?_ | refine n_bon ?_ | refine n_bback ?_ | refine n_back ?_ | refine n_out ?_ | refine n_bout rfl ?_ | refine n_bfar rfl ?_ | refine n_ret ?_ | refine n_exit ?_ | refine n_label ?_ | refine n_scope ?_ | refine n_son ?_ | refine n_sback ?_) | (with_reducible (first | apply n_region | apply d_region); (simp only [JV, JU, JW, Nat.reduceAdd, Nat.zero_add]; exact rfl)) | (with_reducible (first | apply s_op | apply n_guard | apply n_cond | apply d_guard | apply d_op | apply n_fin | apply n_finb); (simp (maxDischargeDepth := 6) only [sy3.1, zY, qG, qP, qQ, qR, qS, qT, rowAt, ↓jg, ↓ji, Nat.reduceAdd, Nat.reduceEqDiff, ne_eq, jG, Nat.reduceLT, if_true, ite_true, Int.reduceLE, Int.reduceLT, Int.reduceEq, Int.reduceNeg, Int.reduceAdd, Nat.reduceSub, if_false, ite_false, fs_4.1, g0, g3, g5, g6, g7, g8, hrow, hc1, hw1, l1, l2, indexAt, Option.isNone_none, Nat.zero_add, d0, hlk, hseen, hml, hpk, hcv, hjr, hj, kind_pure, kind_load, kind_fresh, kind_other, jg, ji, undef]; first | exact rfl | exact ⟨rfl, rfl, rfl, rfl⟩); try (with_reducible refine calmK_in ?_; decide +kernel)))
    refine holds_step hc14 mixed_ (by kernel_rfl) (fuel := 999) ?_
    repeat (first | with_reducible (first | refine n_on ?_ | refine n_seq ?_ | refine s_else ?_ | refine n_t ?_ | refine n_gt ?_ | refine d_t ?_ | refine n_nil ?_ | refine d_nil ?_ | refine n_block ?_ | refine n_skip ?_ | refine n_bon ?_ | refine n_bback ?_ | refine n_back ?_ | refine n_out ?_ | refine n_bout rfl ?_ | refine n_bfar rfl ?_ | refine n_ret ?_ | refine n_exit ?_ | refine n_label ?_ | refine n_scope ?_ | refine n_son ?_ | refine n_sback ?_) | (with_reducible (first | apply n_region | apply d_region); (simp only [JV, JU, JW, Nat.reduceAdd, Nat.zero_add]; exact rfl)) | (with_reducible (first | apply s_op | apply n_guard | apply n_cond | apply d_guard | apply d_op | apply n_fin | apply n_finb); (simp (maxDischargeDepth := 6) only [sy3.1, zY, qG, qP, qQ, qR, qS, qT, rowAt, ↓jg, ↓ji, Nat.reduceAdd, Nat.reduceEqDiff, ne_eq, jG, Nat.reduceLT, if_true, ite_true, Int.reduceLE, Int.reduceLT, Int.reduceEq, Int.reduceNeg, Int.reduceAdd, Nat.reduceSub, if_false, ite_false, fs_4.1, g0, g3, g5, g6, g7, g8, hrow, hc1, hw1, l1, l2, indexAt, Option.isNone_none, Nat.zero_add, d0, hlk, hseen, hml, hpk, hcv, hjr, hj, kind_pure, kind_load, kind_fresh, kind_other, jg, ji, undef]; first | exact rfl | exact ⟨rfl, rfl, rfl, rfl⟩); try (with_reducible refine calmK_in ?_; decide +kernel)))
    refine holds_step hc14 mixed_ (by kernel_rfl) (fuel := 999) ?_
    repeat (first | with_reducible (first | refine n_on ?_ | refine n_seq ?_ | refine s_else ?_ | refine n_t ?_ | refine n_gt ?_ | refine d_t ?_ | refine n_nil ?_ | refine d_nil ?_ | refine n_block ?_ | refine n_skip ?_ | refine n_bon ?_ | refine n_bback ?_ | refine n_back ?_ | refine n_out ?_ | refine n_bout rfl ?_ | refine n_bfar rfl ?_ | refine n_ret ?_ | refine n_exit ?_ | refine n_label ?_ | refine n_scope ?_ | refine n_son ?_ | refine n_sback ?_) | (with_reducible (first | apply n_region | apply d_region); (simp only [JV, JU, JW, Nat.reduceAdd, Nat.zero_add]; exact rfl)) | (with_reducible (first | apply s_op | apply n_guard | apply n_cond | apply d_guard | apply d_op | apply n_fin | apply n_finb); (simp (maxDischargeDepth := 6) only [sy3.1, zY, qG, qP, qQ, qR, qS, qT, rowAt, ↓jg, ↓ji, Nat.reduceAdd, Nat.reduceEqDiff, ne_eq, jG, Nat.reduceLT, if_true, ite_true, Int.reduceLE, Int.reduceLT, Int.reduceEq, Int.reduceNeg, Int.reduceAdd, Nat.reduceSub, if_false, ite_false, fs_4.1, g0, g3, g5, g6, g7, g8, hrow, hc1, hw1, l1, l2, indexAt, Option.isNone_none, Nat.zero_add, d0, hlk, hseen, hml, hpk, hcv, hjr, hj, kind_pure, kind_load, kind_fresh, kind_other, jg, ji, undef]; first | exact rfl | exact ⟨rfl, rfl, rfl, rfl⟩); try (with_reducible refine calmK_in ?_; decide +kernel)))
    refine holds_step hc14 mixed_ (by kernel_rfl) (fuel := 999) ?_
    repeat (first | with_reducible (first | refine n_on ?_ | refine n_seq ?_ | refine s_else ?_ | refine n_t ?_ | refine n_gt ?_ | refine d_t ?_ | refine n_nil ?_ | refine d_nil ?_ | refine n_block ?_ | refine n_skip ?_ | refine n_bon ?_ | refine n_bback ?_ | refine n_back ?_ | refine n_out ?_ | refine n_bout rfl ?_ | refine n_bfar rfl ?_ | refine n_ret ?_ | refine n_exit ?_ | refine n_label ?_ | refine n_scope ?_ | refine n_son ?_ | refine n_sback ?_) | (with_reducible (first | apply n_region | apply d_region); (simp only [JV, JU, JW, Nat.reduceAdd, Nat.zero_add]; exact rfl)) | (with_reducible (first | apply s_op | apply n_guard | apply n_cond | apply d_guard | apply d_op | apply n_fin | apply n_finb); (simp (maxDischargeDepth := 6) only [sy3.1, zY, qG, qP, qQ, qR, qS, qT, rowAt, ↓jg, ↓ji, Nat.reduceAdd, Nat.reduceEqDiff, ne_eq, jG, Nat.reduceLT, if_true, ite_true, Int.reduceLE, Int.reduceLT, Int.reduceEq, Int.reduceNeg, Int.reduceAdd, Nat.reduceSub, if_false, ite_false, fs_4.1, g0, g3, g5, g6, g7, g8, hrow, hc1, hw1, l1, l2, indexAt, Option.isNone_none, Nat.zero_add, d0, hlk, hseen, hml, hpk, hcv, hjr, hj, kind_pure, kind_load, kind_fresh, kind_other, jg, ji, undef]; first | exact rfl | exact ⟨rfl, rfl, rfl, rfl⟩); try (with_reducible refine calmK_in ?_; decide +kernel)))
    refine holds_step hc14 mixed_ (by kernel_rfl) (fuel := 999) ?_
    repeat (first | with_reducible (first | refine n_on ?_ | refine n_seq ?_ | refine s_else ?_ | refine n_t ?_ | refine n_gt ?_ | refine d_t ?_ | refine n_nil ?_ | refine d_nil ?_ | refine n_block ?_ | refine n_skip ?_ | refine n_bon ?_ | refine n_bback ?_ | refine n_back ?_ | refine n_out ?_ | refine n_bout rfl ?_ | refine n_bfar rfl ?_ | refine n_ret ?_ | refine n_exit ?_ | refine n_label ?_ | refine n_scope ?_ | refine n_son ?_ | refine n_sback ?_) | (with_reducible (first | apply n_region | apply d_region); (simp only [JV, JU, JW, Nat.reduceAdd, Nat.zero_add]; exact rfl)) | (with_reducible (first | apply s_op | apply n_guard | apply n_cond | apply d_guard | apply d_op | apply n_fin | apply n_finb); (simp (maxDischargeDepth := 6) only [sy3.1, zY, qG, qP, qQ, qR, qS, qT, rowAt, ↓jg, ↓ji, Nat.reduceAdd, Nat.reduceEqDiff, ne_eq, jG, Nat.reduceLT, if_true, ite_true, Int.reduceLE, Int.reduceLT, Int.reduceEq, Int.reduceNeg, Int.reduceAdd, Nat.reduceSub, if_false, ite_false, fs_4.1, g0, g3, g5, g6, g7, g8, hrow, hc1, hw1, l1, l2, indexAt, Option.isNone_none, Nat.zero_add, d0, hlk, hseen, hml, hpk, hcv, hjr, hj, kind_pure, kind_load, kind_fresh, kind_other, jg, ji, undef]; first | exact rfl | exact ⟨rfl, rfl, rfl, rfl⟩); try (with_reducible refine calmK_in ?_; decide +kernel)))
    refine hQ _ _ _ _ (fun x hx => ?_) (by omega) ⟨?_, ?_, ?_, ?_, ?_, ?_⟩ ⟨v, ⟨⟨nx + 4, ?_, ?_, ?_, ?_⟩, ⟨nx + 9, ?_, ?_, ?_, ?_⟩, ⟨nx + 12, ?_, ?_, ?_, ?_⟩, ?_, hnew⟩⟩
    · (repeat (first | rw [qE] | rw [qF _ _ _ _ (by omega)]))
    all_goals first | (simp only [qC, qD, qE, qF, Tr.get_nil, ne_eq, not_false_eq_true, Nat.reduceEqDiff, g0, g3, g5, g6, g7, g8]; done) | (simp only [qC, qD, qE, qF, Tr.get_nil, ne_eq, not_false_eq_true, Nat.reduceEqDiff]; rfl) | omega | ((repeat (first | rw [qE] | rw [qF _ _ _ _ (by omega)])); done) | skip

section
variable {zs : List (List Value)} {L : HkB} {oa : Option Addr} {cnt i : Nat} {e : Tr Value} {o : Tr AObj} {nx : Nat} {lg : List Nat} {w : Nat → Nat} {B : HB} {hs : HS} {es : List MapEntry} {c : Nat} {sl : Value} {ls : List VV} {k a b c' n : Int} {s : ByteArray} {v : VV} {p : Nat}
/-- the switch -/
theorem hk_switch (M : HkIn zs L cnt o nx w B hs es c sl ls) (E : HkE zs.length L oa i sl e) (D : HkMid (opCells k a b c' n s) i v p o nx w hs e) (hp : ∀ q, p ≤ q → q ≠ L.mw) (hcnt : cnt ≤ 150) :
    Got (rCode Try.prog (oCall Try.prog [] O14 999) 999 (hkB2 Try.f4) e ⟨o, nx, lg⟩) fun s => ∃ e' H', s = (.on, e', H') ∧ HkSt zs L oa (cnt + 1) i e' H' := by
  by_cases h4 : k < 4
  · exact hk_c1 M E D hp h4 hcnt
  · by_cases h9 : k < 9
    · exact hk_c2 M E D h4 h9 hcnt
    · by_cases h13 : k = 13
      · exact hk_c3 M E D h13 hcnt
      · exact hk_c0 M E D h9 h13
/-! ### what the map tells of the heap -/
def wtL : List Value → Int
  | .int _ k :: _ => if k = 5 then 4 else 1
  | _ => 0
def wtV : Value → Int
  | .agg a => wtL a.toList
  | _ => 0
theorem want_entry (kv : MapIs vv es (wantKV hs.objs)) (hG : HGood hs) : (∀ x ∈ es, ∃ q ∈ hs.objs, x.key = .agg #[.int .u8 q.2.kind, .int .i64 q.1] ∧ x.val = .int .i64 (numOf q.2)) ∧ (∀ x ∈ es, ∀ y ∈ es, ∀ a b d : Int, x.key = .agg #[.int .u8 a, .int .i64 d] → y.key = .agg #[.int .u8 b, .int .i64 d] → x = y) ∧
    es.map (fun x => wtV x.key) = hs.objs.map (fun q => if q.2.kind = 5 then 4 else 1) := by
  have hv : es.map (fun e => (e.key, e.val)) = hs.objs.map fun q => ((.agg #[.int .u8 q.2.kind, .int .i64 q.1] : Value), (.int .i64 (numOf q.2) : Value)) := by
    have := kv
    unfold MapIs wantKV at this
    simpa [List.map_map, Function.comp_def, vv, keyOf] using this
  have hmem : ∀ x ∈ es, ∃ q ∈ hs.objs, x.key = .agg #[.int .u8 q.2.kind, .int .i64 q.1] ∧ x.val = .int .i64 (numOf q.2) := fun x hx => by
    have : (x.key, x.val) ∈ es.map (fun e => (e.key, e.val)) := List.mem_map.2 ⟨x, hx, rfl⟩
    rw [hv] at this
    obtain ⟨q, hq, e⟩ := List.mem_map.1 this
    simp only [Prod.mk.injEq] at e
    exact ⟨q, hq, e.1.symm, e.2.symm⟩
  refine ⟨hmem, ?_, ?_⟩
  · have hk : es.map (·.key) = hs.objs.map fun q => (.agg #[.int .u8 q.2.kind, .int .i64 q.1] : Value) := by
      have := congrArg (List.map Prod.fst) hv
      simpa [List.map_map, Function.comp_def] using this
    have hkn : (es.map (·.key)).Nodup := by
      rw [hk]
      have := hG.keys
      rw [List.Nodup, List.pairwise_map] at this ⊢
      exact this.imp fun h e => h (by simp at e; exact e.2)
    intro x hx y hy a b d ex ey
    have hxy : x.key = y.key := by
      obtain ⟨q1, h1, e1, _⟩ := hmem x hx
      obtain ⟨q2, h2, e2, _⟩ := hmem y hy
      rw [ex] at e1; rw [ey] at e2
      simp at e1 e2
      have : q1 = q2 := by
        have a1 := look_nodup hG.keys (show (d, q1.2) ∈ hs.objs by rw [e1.2]; exact h1)
        have a2 := look_nodup hG.keys (show (d, q2.2) ∈ hs.objs by rw [e2.2]; exact h2)
        rw [a1] at a2
        exact Prod.ext (e1.2.symm.trans e2.2) (Option.some.inj a2)
      rw [ex, ey, e1.1, e2.1, this]
    clear hv hmem hk kv
    induction es with
    | nil => cases hx
    | cons z es ih =>
      simp only [List.map_cons, List.nodup_cons] at hkn
      rcases List.mem_cons.1 hx with e1 | hx
      · rcases List.mem_cons.1 hy with e2 | hy
        · rw [e1, e2]
        · exact absurd (List.mem_map.2 ⟨y, hy, by rw [← e1]; exact hxy.symm⟩) hkn.1
      · rcases List.mem_cons.1 hy with e2 | hy
        · exact absurd (List.mem_map.2 ⟨x, hx, by rw [← e2]; exact hxy⟩) hkn.1
        · exact ih hkn.2 hx hy
  · have hk : es.map (·.key) = hs.objs.map fun q => (.agg #[.int .u8 q.2.kind, .int .i64 q.1] : Value) := by
      have := congrArg (List.map Prod.fst) hv
      simpa [List.map_map, Function.comp_def] using this
    have := congrArg (List.map wtV) hk
    simpa [List.map_map, Function.comp_def, wtV, wtL] using this
theorem KP.sum {c : Nat} (K : KP hs c) : (hs.objs.map (fun q => if q.2.kind = 5 then (4 : Int) else 1)).sum = hs.pool.used := by
  rw [K.acc.used]
  unfold sumO
  congr 1
  refine List.map_congr_left fun q hq => ?_
  rcases K.shape q hq with ⟨h, _⟩ | ⟨h, n, ht⟩
  · unfold szO; rw [h]; rfl
  · unfold szO; rw [h, ht]; rfl
/-- what is told of an object of the law's -/
theorem KP.tells {c : Nat} (K : KP hs c) {q : Int × Ob} (hq : q ∈ hs.objs) : findO hs (q.2.kind, q.1) = some q.2 ∧ (q.2.kind ≠ 5 → (loadO hs (q.2.kind, q.1)).2 = numOf q.2) ∧ (q.2.kind = 5 → (getO hs (q.2.kind, q.1) (3, 1)).2 = numOf q.2) := by
  have hsh := K.shape q hq
  have hf : findO hs (q.2.kind, q.1) = some q.2 := (find_iff K.good).2 ⟨hsh.holds.1, hq, rfl⟩
  refine ⟨hf, fun h => ?_, fun h => ?_⟩
  · have h9 : q.2.kind = 9 := by rcases hsh.holds.2 with e | e <;> omega
    unfold loadO ofO numOf
    rw [if_pos h9, hf, if_pos h9]
  · unfold getO ofO numOf
    rw [if_pos h, hf, if_neg (by omega)]
end
end Go.Proofs.Ythnlkahgmbadoaa
