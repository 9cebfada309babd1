/- LibGoes: ipairs is asked. -/
import Derived.Test.YtdfadipfhcikdaaGreatDoorGoLaw5
namespace Go.Proofs.YtdfadipfhcikdaaGreatDoor
open Go.RowKit
set_option linter.unusedSimpArgs false
set_option linter.unusedVariables false
set_option maxRecDepth 100000

def goR3 (f : Func) : Code := sqR (goR2 f)
def goR4 (f : Func) : Code := sqR (sqR (sqR (goR3 f)))
section
variable {O : Helps} {n : Nat}
def StpSt (bs : List Bool) (bi b5 : Nat) (ks : List Nat) (rw : Nat) (r : Nat) (e : Tr Value) (H : AHeap) : Prop :=
  ∃ o nx lg w B a7 b q b13 a12, H = (⟨o, nx, lg⟩ : AHeap) ∧ L2 bs bi b5 ks o nx w B a7 b q b13 32 3 a12 ks.length (3, Int.ofNat r) ∧ MidE bi b5 ks a7 rw e ∧ e.get 16 = some (.pointer (some ⟨b, 0, none⟩)) ∧ e.get 12 = some (.slice (slA a12) (2 * ks.length) 0) ∧ e.get 13 = some (.pointer (some ⟨b13, 0, none⟩)) ∧ e.get 17 = some (.int .i64 (.ofNat r))
set_option maxHeartbeats 64000000 in
theorem go_mid2 (hO : Clear O) (hN : O 9 = some numFn) {bs : List Bool} {bi b5 rw : Nat} {ks : List Nat} {v : VV} {e : Tr Value} {H : AHeap} {Q : St → Prop} (h : MidSt bs bi b5 ks rw ks.length v e H)
    (hK : ∀ e' H', StpSt bs bi b5 ks rw 0 e' H' → Got (rCode Tryz.prog (oCall Tryz.prog [] O 9999) 9999 (goR4 Tryz.f3) e' H') Q) :
    Got (rCode Tryz.prog (oCall Tryz.prog [] O 9999) 9999 (goR3 Tryz.f3) e H) Q := by
  obtain ⟨o, nx, lg, w, B, a7, b, q0, b13, a12, rfl, L, E, g11, g12, g13⟩ := h
  have M := L.M
  have g3 := E.g3; have g5 := E.g5; have g7 := E.g7; have g8 := E.g8
  have r5 := M.r5; have lt5 := M.lt5; have r13 := L.r13; have l13 := L.l13
  show Got (rCode _ _ _ (Code.seq _ (Code.seq _ (Code.seq _ (goR4 Tryz.f3)))) _ _) _
  generalize goR4 Tryz.f3 = T at hK ⊢
  have hNp := num_ipairs (n := 9998) hN
  have q1 := fun (o : Tr AObj) (nx : Nat) (lg : List Nat) => wnum_ok (o := o) (nx := nx) (lg := lg) (n := 9998) hO 0
  repeat (first | with_reducible (first | refine n_on ?_ | refine n_seq ?_ | refine s_else ?_ | refine n_t ?_ | refine n_gt ?_ | refine d_t ?_ | refine n_nil ?_ | refine d_nil ?_ | refine n_block ?_ | refine n_skip ?_ | refine n_bon ?_ | refine n_bback ?_ | refine n_back ?_ | refine n_out ?_ | refine n_bout rfl ?_ | refine n_bfar rfl ?_ | refine n_ret ?_ | refine n_exit ?_ | refine n_label ?_ | refine n_scope ?_ | refine n_son ?_ | refine n_sback ?_) | (with_reducible (first | apply n_region | apply d_region); (simp only [JV, JU, JW, Nat.reduceAdd, Nat.zero_add]; exact rfl)) | (with_reducible (first | apply s_op | apply n_guard | apply n_cond | apply d_guard | apply d_op | apply n_fin | apply n_finb); (simp (maxDischargeDepth := 6) only [sy3.1, zY, qG, qP, qQ, qR, qS, qT, rowAt, ↓jg, ↓ji, Nat.reduceAdd, Nat.reduceEqDiff, ne_eq, jG, Nat.reduceLT, if_true, ite_true, Int.reduceLE, Int.reduceLT, Int.reduceEq, Int.reduceNeg, Int.reduceAdd, Nat.reduceSub, if_false, ite_false, fs_3.1, g3, g5, r5, lt5, hNp, st_buildSliceV, bs1, kind_pure, kind_load, kind_fresh, kind_other, jg, ji, undef]; first | exact rfl | exact ⟨rfl, rfl, rfl, rfl⟩); try (with_reducible refine calmK_in ?_; decide +kernel)))
  refine d_do (DoneTo _ (nx + 7) [] [(7, 32), (5, 1), (3, 0)]) 3 (by
    simp (maxDischargeDepth := 6) only [sy3.1, zY, qG, qP, qQ, qR, qS, qT, rowAt, ↓jg, ↓ji, Nat.reduceAdd, Nat.reduceEqDiff, ne_eq, jG, Nat.reduceLT, if_true, ite_true, Int.reduceLE, Int.reduceLT, Int.reduceEq, Int.reduceNeg, Int.reduceAdd, Nat.reduceSub, if_false, ite_false, fs_3.1, g3, ← M.hB]
    exact call_ipairs (n := 9991) hO (M.heap.more (by omega) fun x hx => by (repeat (first | rw [qE] | rw [qF _ _ _ _ (by omega)]))) (by omega) (qE _ _ _) rfl) ?_ (by decide +kernel) ?_
  · exact done_kind rfl (Nat.le_refl _)
  rintro v1 o1 nx1 l1 ⟨q, _, _, heq, hq, hq2, hrq, hfr⟩ cl
  cases heq
  have f13 : o1.get b13 = some (.row [.int .u8 v.1, .int .i64 v.2] 29 0 true) := by rw [hfr b13 (by omega)]; (repeat (first | rw [qE] | rw [qF _ _ _ _ (by omega)])); exact r13
  have lt13 : b13 < nx1 := by omega
  have hb13 : b13 ≠ nx + 5 := by omega
  have hrq' : o1.get q = some (.row [.int .u8 7, .int .i64 32, .int .u8 5, .int .i64 1, .int .u8 3, .int .i64 0] 29 2 true) := hrq
  repeat (first | with_reducible (first | refine n_on ?_ | refine n_seq ?_ | refine s_else ?_ | refine n_t ?_ | refine n_gt ?_ | refine d_t ?_ | refine n_nil ?_ | refine d_nil ?_ | refine n_block ?_ | refine n_skip ?_ | refine n_bon ?_ | refine n_bback ?_ | refine n_back ?_ | refine n_out ?_ | refine n_bout rfl ?_ | refine n_bfar rfl ?_ | refine n_ret ?_ | refine n_exit ?_ | refine n_label ?_ | refine n_scope ?_ | refine n_son ?_ | refine n_sback ?_) | (with_reducible (first | apply n_region | apply d_region); (simp only [JV, JU, JW, Nat.reduceAdd, Nat.zero_add]; exact rfl)) | (with_reducible (first | apply s_op | apply n_guard | apply n_cond | apply d_guard | apply d_op | apply n_fin | apply n_finb); (simp (maxDischargeDepth := 6) only [sy3.1, zY, qG, qP, qQ, qR, qS, qT, rowAt, ↓jg, ↓ji, Nat.reduceAdd, Nat.reduceEqDiff, ne_eq, jG, Nat.reduceLT, if_true, ite_true, Int.reduceLE, Int.reduceLT, Int.reduceEq, Int.reduceNeg, Int.reduceAdd, Nat.reduceSub, if_false, ite_false, fs_3.1, g3, g13, f13, lt13, hb13, toldV, q1, kind_pure, kind_load, kind_fresh, kind_other, jg, ji, undef]; first | exact rfl | exact ⟨rfl, rfl, rfl, rfl⟩); try (with_reducible refine calmK_in ?_; decide +kernel)))
  have L1 : L2 bs bi b5 ks ((o1.put (nx + 5) (some (.row [.int .u8 1, .slice (some ⟨q, 0, none⟩) 3 0, .bool false, .string ⟨#[]⟩] 37 0 true)))) nx1 w B a7 (nx + 5) q b13 32 3 a12 ks.length v := L.told (by omega) (fun x hx => by (repeat (first | rw [qE] | rw [qF _ _ _ _ (by omega)])); rw [hfr x (by omega)]; (repeat (first | rw [qE] | rw [qF _ _ _ _ (by omega)]))) (by omega) (by omega) (by (repeat (first | rw [qE] | rw [qF _ _ _ _ (by omega)]))) (by (repeat (first | rw [qE] | rw [qF _ _ _ _ (by omega)])); exact hrq')
  refine hK _ _ ⟨_, _, _, w, B, a7, nx + 5, q, b13, a12, rfl, L1.turn0 (by omega) (fun x hx hx13 => ?_) ?_, ⟨?_, ?_, ?_, ?_⟩, ?_, ?_, ?_, ?_⟩
  · by_cases hx5 : x = nx + 5
    · subst hx5; (repeat (first | rw [qE] | rw [qF _ _ _ _ (by omega)]))
    · (repeat (first | rw [qE] | rw [qF _ _ _ _ (by omega)]))
  · (repeat (first | rw [qE] | rw [qF _ _ _ _ (by omega)])); rfl
  all_goals simp only [qC, qD, qE, qF, Tr.get_nil, ne_eq, not_false_eq_true, Nat.reduceEqDiff, g3, g5, g7, g8, g11, g12, g13]
  rfl
end
end Go.Proofs.YtdfadipfhcikdaaGreatDoor
