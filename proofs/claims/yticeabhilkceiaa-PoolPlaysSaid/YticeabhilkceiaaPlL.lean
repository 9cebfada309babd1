/- PoolPlays: the script's Copy; what the law asks after each call. -/
import Derived.Test.YticeabhilkceiaaPlK
namespace Go.Proofs.Yticeabhilkceiaa
open Go.RowKit
set_option linter.unusedSimpArgs false
set_option linter.unusedVariables false
set_option maxRecDepth 100000

theorem ilist_kind {o2 : Tr AObj} {m : Nat} {xs : List Int} {r : Value × AHeap} (h : IList o2 m [] xs r) : kindOf (.other (Nat.beq m r.2.next && r.2.log.isEmpty) r.2.log) = cond xs.isEmpty 2 3 := by
  obtain ⟨ca, o', nx', rfl, h1, h2, h3, h4, h5⟩ := h
  show cond (List.isEmpty ([] : List Nat)) (cond (Nat.beq m nx' && true) 2 3) 4 = _
  cases xs with
  | nil => rw [h4 rfl, Nat.beq_refl]; rfl
  | cons x xs =>
    have := h5 (by simp)
    have e : Nat.beq m nx' = false := by
      cases e : Nat.beq m nx' with
      | false => rfl
      | true => have := Nat.eq_of_beq_eq_true e; omega
    rw [e]; rfl
section
variable {z : List Value} {kw : Nat} {oa : Option Addr} {len i r : Nat} {kd id size : Int} {e : Tr Value} {H : AHeap}
set_option maxHeartbeats 32000000 in
theorem pl_c4 (h : PSt1 z kw oa len i r kd id size e H) (h11 : e.get 11 = some (.int .i64 0)) (h12 : e.get 12 = some (.int .i64 0)) (hr : r < 60) :
    Got (rCode Try.prog (oCall Try.prog [] O12 999) 999 (plC4 Try.f3) e H) fun s => ∃ e' H', s = (Way.on, e', H') ∧ PSt2 z kw oa len i (r + 1) kd id size e' H' := by
  have hO := clear12
  obtain ⟨o, nx, lg, ip, a, b, st, ra, rb, k10, rfl, M, hG, hsl, E, g10, hrow10, hk10, hm10, hw10⟩ := h
  have g1 := E.g1; have g5 := E.g5; have g7 := E.g7; have g9 := E.g9
  have hfl := hG.cnt
  refine n_seq ?_
  repeat (first | with_reducible (first | refine n_on ?_ | refine n_seq ?_ | refine s_else ?_ | refine n_t ?_ | refine n_gt ?_ | refine d_t ?_ | refine n_nil ?_ | refine d_nil ?_ | refine n_block ?_ | refine n_skip ?_ | refine n_bon ?_ | refine n_bback ?_ | refine n_back ?_ | refine n_out ?_ | refine n_bout rfl ?_ | refine n_bfar rfl ?_ | refine n_ret ?_ | refine n_exit ?_ | refine n_label ?_ | refine n_scope ?_ | refine n_son ?_ | refine n_sback ?_) | (with_reducible (first | apply n_region | apply d_region); (simp only [JV, JU, JW, Nat.reduceAdd, Nat.zero_add]; exact rfl)) | (with_reducible (first | apply s_op | apply n_guard | apply n_cond | apply d_guard | apply d_op | apply n_fin | apply n_finb); (simp (maxDischargeDepth := 6) only [sy3.1, zY, qG, qP, qQ, qR, qS, qT, rowAt, ↓jg, ↓ji, Nat.reduceAdd, Nat.reduceEqDiff, ne_eq, jG, Nat.reduceLT, if_true, ite_true, Int.reduceLE, Int.reduceLT, Int.reduceEq, Int.reduceNeg, Int.reduceAdd, Nat.reduceSub, if_false, ite_false, fs_3.1, g1, g5, g7, g9, g10, kind_pure, kind_load, kind_fresh, kind_other, jg, ji, undef]; first | exact rfl | exact ⟨rfl, rfl, rfl, rfl⟩); try (with_reducible refine calmK_in ?_; decide +kernel)))
  refine s_do _ (by
    simp (maxDischargeDepth := 6) only [sy3.1, zY, qG, qP, qQ, qR, qS, qT, rowAt, ↓jg, ↓ji, Nat.reduceAdd, Nat.reduceEqDiff, ne_eq, jG, Nat.reduceLT, if_true, ite_true, Int.reduceLE, Int.reduceLT, Int.reduceEq, Int.reduceNeg, Int.reduceAdd, Nat.reduceSub, if_false, ite_false, fs_3.1]
    exact pcopy_ok (n := 997) hO (M.pool.more (by omega) fun _ _ => rfl) (by omega) (by omega)) ?_
  rintro v1 ⟨o1, nx1, lg1⟩ ⟨_, _, ic, ac, bc, heq, p1, p2, p3, p4⟩
  cases heq
  have hold : ∀ x, x < nx → o1.get x = o.get x := fun x hx => p4 x (by omega)
  repeat (first | with_reducible (first | refine n_on ?_ | refine n_seq ?_ | refine s_else ?_ | refine n_t ?_ | refine n_gt ?_ | refine d_t ?_ | refine n_nil ?_ | refine d_nil ?_ | refine n_block ?_ | refine n_skip ?_ | refine n_bon ?_ | refine n_bback ?_ | refine n_back ?_ | refine n_out ?_ | refine n_bout rfl ?_ | refine n_bfar rfl ?_ | refine n_ret ?_ | refine n_exit ?_ | refine n_label ?_ | refine n_scope ?_ | refine n_son ?_ | refine n_sback ?_) | (with_reducible (first | apply n_region | apply d_region); (simp only [JV, JU, JW, Nat.reduceAdd, Nat.zero_add]; exact rfl)) | (with_reducible (first | apply s_op | apply n_guard | apply n_cond | apply d_guard | apply d_op | apply n_fin | apply n_finb); (simp (maxDischargeDepth := 6) only [sy3.1, zY, qG, qP, qQ, qR, qS, qT, rowAt, ↓jg, ↓ji, Nat.reduceAdd, Nat.reduceEqDiff, ne_eq, jG, Nat.reduceLT, if_true, ite_true, Int.reduceLE, Int.reduceLT, Int.reduceEq, Int.reduceNeg, Int.reduceAdd, Nat.reduceSub, if_false, ite_false, fs_3.1, g1, g5, g7, g9, g10, kind_pure, kind_load, kind_fresh, kind_other, jg, ji, undef]; first | exact rfl | exact ⟨rfl, rfl, rfl, rfl⟩); try (with_reducible refine calmK_in ?_; decide +kernel)))
  refine s_do _ (by
    simp (maxDischargeDepth := 6) only [sy3.1, zY, qG, qP, qQ, qR, qS, qT, rowAt, ↓jg, ↓ji, Nat.reduceAdd, Nat.reduceEqDiff, ne_eq, jG, Nat.reduceLT, if_true, ite_true, Int.reduceLE, Int.reduceLT, Int.reduceEq, Int.reduceNeg, Int.reduceAdd, Nat.reduceSub, if_false, ite_false, fs_3.1]
    exact ptake_ok (n := 996) hO (M.pool.more (by omega) hold) hG 0 (by omega)) ?_
  rintro v2 ⟨o2, nx2, lg2⟩ ⟨_, _, _, a2, b2, heq, q1, q2, q3, q4, q5, _, _⟩
  cases heq
  have htl := take_len st 0
  repeat (first | with_reducible (first | refine n_on ?_ | refine n_seq ?_ | refine s_else ?_ | refine n_t ?_ | refine n_gt ?_ | refine d_t ?_ | refine n_nil ?_ | refine d_nil ?_ | refine n_block ?_ | refine n_skip ?_ | refine n_bon ?_ | refine n_bback ?_ | refine n_back ?_ | refine n_out ?_ | refine n_bout rfl ?_ | refine n_bfar rfl ?_ | refine n_ret ?_ | refine n_exit ?_ | refine n_label ?_ | refine n_scope ?_ | refine n_son ?_ | refine n_sback ?_) | (with_reducible (first | apply n_region | apply d_region); (simp only [JV, JU, JW, Nat.reduceAdd, Nat.zero_add]; exact rfl)) | (with_reducible (first | apply s_op | apply n_guard | apply n_cond | apply d_guard | apply d_op | apply n_fin | apply n_finb); (simp (maxDischargeDepth := 6) only [sy3.1, zY, qG, qP, qQ, qR, qS, qT, rowAt, ↓jg, ↓ji, Nat.reduceAdd, Nat.reduceEqDiff, ne_eq, jG, Nat.reduceLT, if_true, ite_true, Int.reduceLE, Int.reduceLT, Int.reduceEq, Int.reduceNeg, Int.reduceAdd, Nat.reduceSub, if_false, ite_false, fs_3.1, g1, g5, g7, g9, g10, kind_pure, kind_load, kind_fresh, kind_other, jg, ji, undef]; first | exact rfl | exact ⟨rfl, rfl, rfl, rfl⟩); try (with_reducible refine calmK_in ?_; decide +kernel)))
  refine s_do _ (by
    simp (maxDischargeDepth := 6) only [sy3.1, zY, qG, qP, qQ, qR, qS, qT, rowAt, ↓jg, ↓ji, Nat.reduceAdd, Nat.reduceEqDiff, ne_eq, jG, Nat.reduceLT, if_true, ite_true, Int.reduceLE, Int.reduceLT, Int.reduceEq, Int.reduceNeg, Int.reduceAdd, Nat.reduceSub, if_false, ite_false, fs_3.1]
    exact pgive_ok (n := 996) hO (q2.more (by omega) fun _ _ => rfl) (hG.take 0) 1 (by omega)) ?_
  rintro v3 ⟨o3, nx3, lg3⟩ ⟨_, _, _, a3, b3, heq, s1, s2, s3, s4, s5, _, _⟩
  cases heq
  repeat (first | with_reducible (first | refine n_on ?_ | refine n_seq ?_ | refine s_else ?_ | refine n_t ?_ | refine n_gt ?_ | refine d_t ?_ | refine n_nil ?_ | refine d_nil ?_ | refine n_block ?_ | refine n_skip ?_ | refine n_bon ?_ | refine n_bback ?_ | refine n_back ?_ | refine n_out ?_ | refine n_bout rfl ?_ | refine n_bfar rfl ?_ | refine n_ret ?_ | refine n_exit ?_ | refine n_label ?_ | refine n_scope ?_ | refine n_son ?_ | refine n_sback ?_) | (with_reducible (first | apply n_region | apply d_region); (simp only [JV, JU, JW, Nat.reduceAdd, Nat.zero_add]; exact rfl)) | (with_reducible (first | apply s_op | apply n_guard | apply n_cond | apply d_guard | apply d_op | apply n_fin | apply n_finb); (simp (maxDischargeDepth := 6) only [sy3.1, zY, qG, qP, qQ, qR, qS, qT, rowAt, ↓jg, ↓ji, Nat.reduceAdd, Nat.reduceEqDiff, ne_eq, jG, Nat.reduceLT, if_true, ite_true, Int.reduceLE, Int.reduceLT, Int.reduceEq, Int.reduceNeg, Int.reduceAdd, Nat.reduceSub, if_false, ite_false, fs_3.1, g1, g5, g7, g9, g10, kind_pure, kind_load, kind_fresh, kind_other, jg, ji, undef]; first | exact rfl | exact ⟨rfl, rfl, rfl, rfl⟩); try (with_reducible refine calmK_in ?_; decide +kernel)))
  have hmp : ∀ x, PMine ip a b x → x < nx := fun x hx => M.pool.mine_lt hx
  have hm2 : ∀ x, PMine ip a2 b2 x → PMine ip a b x ∨ nx1 ≤ x := fun x hx => (mine_turn q4 q5 x hx).imp (fun h => h) (Nat.le_trans (by omega))
  have far : ∀ x, x < nx1 → ¬ PMine ip a b x → o3.get x = o1.get x := fun x hx hm => by
    rw [s3 x (by omega) (fun h => (hm2 x h).elim hm fun h => by omega), q3 x (by omega) hm]
  have hp : PoolIn o3 (nx3 + 2) ic ac bc st := p3.keep (by omega) fun x hx => far x (p3.mine_lt hx) fun h => by
    have := p2 x hx
    have := hmp x h
    omega
  have M3 := M.turn (nx' := nx3 + 2) (by omega) hp rfl (fun x hx hm => by rw [far x (by omega) hm, hold x hx]) fun x hx => .inr (by have := p2 x hx; omega)
  refine ⟨_, _, rfl, ⟨_, _, _, ic, ac, bc, st, ra, rb, k10, rfl, M3, hG, by omega, ⟨?_, ?_, ?_, ?_⟩, ?_, ?_, by omega, ?_, hw10⟩, 0, ?_, ?_⟩
  · simp only [qC, qD, qE, qF, Tr.get_nil, ne_eq, not_false_eq_true, Nat.reduceEqDiff, g1]
  · simp only [qC, qD, qE, qF, Tr.get_nil, ne_eq, not_false_eq_true, Nat.reduceEqDiff]
  · simp only [qC, qD, qE, qF, Tr.get_nil, ne_eq, not_false_eq_true, Nat.reduceEqDiff, g7]
  · simp only [qC, qD, qE, qF, Tr.get_nil, ne_eq, not_false_eq_true, Nat.reduceEqDiff, g9]
  · simp only [qC, qD, qE, qF, Tr.get_nil, ne_eq, not_false_eq_true, Nat.reduceEqDiff, g10]
  · rw [far k10 (by omega) hm10, hold k10 (by omega)]; exact hrow10
  · intro hm; have := p2 k10 hm; omega
  · simp only [qC, qD, qE, qF, Tr.get_nil, ne_eq, not_false_eq_true, Nat.reduceEqDiff, h11]
  · simp only [qC, qD, qE, qF, Tr.get_nil, ne_eq, not_false_eq_true, Nat.reduceEqDiff, h12]
set_option maxHeartbeats 64000000 in
theorem pl_tail (h : PSt2 z kw oa len i r kd id size e H) (hr : r ≤ 60) :
    Got (rCode Try.prog (oCall Try.prog [] O12 999) 999 (plTail Try.f3) e H) fun s => ∃ e' H', s = (Way.on, e', H') ∧ PSt z kw oa len i r e' H' := by
  have hO := clear12
  obtain ⟨⟨o, nx, lg, ip, a, b, st, ra, rb, k10, rfl, M, hG, hsl, E, g10, hrow10, hk10, hm10, hw10⟩, x, g11, g12⟩ := h
  have g1 := E.g1; have g5 := E.g5; have g7 := E.g7; have g9 := E.g9
  obtain ⟨hrl, hrs⟩ := good_refs hG
  have hil : (idsP st).length ≤ 60 := by rw [hrl]; have := pres_len st.sizes; omega
  have hMq := fun q : Nat => M.more (o' := o) (nx' := nx + q) (by omega) fun _ _ => rfl
  have hsz := fun (q : Nat) (lg : List Nat) => psize_ok (n := 997) (nx := nx + q) (lg := lg) hO (hMq q).pool (by omega) id
  have hrsz := fun (q : Nat) (lg : List Nat) => rsize_ok (n := 997) (bd := st.bound) (nx := nx + q) (lg := lg) hO (hMq q).lra (hMq q).lrb hrl (by omega) (by omega) id
  have hus := fun (q : Nat) (lg : List Nat) => pused_ok (n := 997) (nx := nx + q) (lg := lg) hO (hMq q).pool
  have hrus := fun (q : Nat) (lg : List Nat) => rused_ok (n := 998) (a := ra) (bd := st.bound) (ids := idsP st) (nx := nx + q) (lg := lg) hO (hMq q).lrb.ints (pres_nn _) (by have := hG.b1; omega) (by omega) (by omega)
  have hcn := fun (q : Nat) (lg : List Nat) => pcount_ok (n := 997) (nx := nx + q) (lg := lg) hO (hMq q).pool
  simp only [size_rel] at hrsz
  rw [sum_pres, ← hG.used] at hrus
  have hce : decide (st.count = Int.ofNat (idsP st).length) = true := decide_eq_true hG.count
  generalize sizeP st id = S at hsz hrsz
  obtain ⟨S1, S2⟩ := S
  have hw := M.wrow
  have hltw := M.ltw
  have x1 : decide (x = x) = true := decide_eq_true rfl
  have x2 : decide (S1 = S1) = true := decide_eq_true rfl
  have x3 : (!(S2 == S2)) = false := by cases S2 <;> rfl
  have x4 : decide (st.used = st.used) = true := decide_eq_true rfl
  simp only [rpV] at hrsz hrus
  refine n_seq ?_
  repeat (first | with_reducible (first | refine n_on ?_ | refine n_seq ?_ | refine s_else ?_ | refine n_t ?_ | refine n_gt ?_ | refine d_t ?_ | refine n_nil ?_ | refine d_nil ?_ | refine n_block ?_ | refine n_skip ?_ | refine n_bon ?_ | refine n_bback ?_ | refine n_back ?_ | refine n_out ?_ | refine n_bout rfl ?_ | refine n_bfar rfl ?_ | refine n_ret ?_ | refine n_exit ?_ | refine n_label ?_ | refine n_scope ?_ | refine n_son ?_ | refine n_sback ?_) | (with_reducible (first | apply n_region | apply d_region); (simp only [JV, JU, JW, Nat.reduceAdd, Nat.zero_add]; exact rfl)) | (with_reducible (first | apply s_op | apply n_guard | apply n_cond | apply d_guard | apply d_op | apply n_fin | apply n_finb); (simp (maxDischargeDepth := 6) only [sy3.1, zY, qG, qP, qQ, qR, qS, qT, rowAt, ↓jg, ↓ji, Nat.reduceAdd, Nat.reduceEqDiff, ne_eq, jG, Nat.reduceLT, if_true, ite_true, Int.reduceLE, Int.reduceLT, Int.reduceEq, Int.reduceNeg, Int.reduceAdd, Nat.reduceSub, if_false, ite_false, fs_3.1, g1, g5, g7, g9, g10, g11, g12, hrow10, hk10, hw, hltw, hsz, hrsz, hus, hrus, hcn, hce, x1, x2, x3, x4, kind_pure, kind_load, kind_fresh, kind_other, jg, ji, undef]; first | exact rfl | exact ⟨rfl, rfl, rfl, rfl⟩); try (with_reducible refine calmK_in ?_; decide +kernel)))
  obtain ⟨k3, hk3⟩ : ∃ k3, k3 = cond (idsP st).isEmpty 2 3 := ⟨_, rfl⟩
  have hk3' : k3 = 2 ∨ k3 = 3 := by rw [hk3]; cases (idsP st).isEmpty <;> simp
  rcases hk3' with rfl | rfl
  all_goals
    refine d_do (IList o (nx + 54) [] (idsP st)) _ (by
      simp (maxDischargeDepth := 6) only [sy3.1, zY, qG, qP, qQ, qR, qS, qT, rowAt, ↓jg, ↓ji, Nat.reduceAdd, Nat.reduceEqDiff, ne_eq, jG, Nat.reduceLT, if_true, ite_true, Int.reduceLE, Int.reduceLT, Int.reduceEq, Int.reduceNeg, Int.reduceAdd, Nat.reduceSub, if_false, ite_false, fs_3.1]
      exact pids_ok (n := 997) hO (hMq 54).pool (by omega) (by omega)) (fun r hr => (ilist_kind hr).trans hk3.symm) (by decide +kernel) ?_
    rintro v1 o1 N1 l1 ⟨ca, _, _, heq, p1, p2, p3, p4, p5⟩ cl1
    cases heq
    have M1 := (hMq 54).more p1 p3
    have hsame := fun (q : Nat) (lg : List Nat) => same_ok (n := 998) (nx := N1 + q) (lg := lg) hO (p2.keep (by omega) fun _ _ => rfl) (M1.lra.ints.keep (nx' := N1 + q) (by omega) fun _ _ => rfl) (by omega) (by omega)
    have hsame0 := fun (lg : List Nat) => same_ok (n := 998) (nx := N1) (lg := lg) hO p2 M1.lra.ints (by omega) (by omega)
    have hw1 := M1.wrow
    have hltw1 := M1.ltw
    have hn : (!true) = false := rfl
    repeat (first | with_reducible (first | refine n_on ?_ | refine n_seq ?_ | refine s_else ?_ | refine n_t ?_ | refine n_gt ?_ | refine d_t ?_ | refine n_nil ?_ | refine d_nil ?_ | refine n_block ?_ | refine n_skip ?_ | refine n_bon ?_ | refine n_bback ?_ | refine n_back ?_ | refine n_out ?_ | refine n_bout rfl ?_ | refine n_bfar rfl ?_ | refine n_ret ?_ | refine n_exit ?_ | refine n_label ?_ | refine n_scope ?_ | refine n_son ?_ | refine n_sback ?_) | (with_reducible (first | apply n_region | apply d_region); (simp only [JV, JU, JW, Nat.reduceAdd, Nat.zero_add]; exact rfl)) | (with_reducible (first | apply s_op | apply n_guard | apply n_cond | apply d_guard | apply d_op | apply n_fin | apply n_finb); (simp (maxDischargeDepth := 6) only [sy3.1, zY, qG, qP, qQ, qR, qS, qT, rowAt, ↓jg, ↓ji, Nat.reduceAdd, Nat.reduceEqDiff, ne_eq, jG, Nat.reduceLT, if_true, ite_true, Int.reduceLE, Int.reduceLT, Int.reduceEq, Int.reduceNeg, Int.reduceAdd, Nat.reduceSub, if_false, ite_false, fs_3.1, g1, g5, g7, g9, g10, hw1, hltw1, hsame, hsame0, hn, kind_pure, kind_load, kind_fresh, kind_other, jg, ji, undef]; first | exact rfl | exact ⟨rfl, rfl, rfl, rfl⟩); try (with_reducible refine calmK_in ?_; decide +kernel)))
    exact ⟨_, _, rfl, _, _, _, ip, a, b, st, ra, rb, rfl, M1.more (by omega) fun _ _ => rfl, hG, hsl, E.turn (by simp only [qC, qD, qE, qF, Tr.get_nil, ne_eq, not_false_eq_true, Nat.reduceEqDiff]) (by simp only [qC, qD, qE, qF, Tr.get_nil, ne_eq, not_false_eq_true, Nat.reduceEqDiff]) (by simp only [qC, qD, qE, qF, Tr.get_nil, ne_eq, not_false_eq_true, Nat.reduceEqDiff]) (by simp only [qC, qD, qE, qF, Tr.get_nil, ne_eq, not_false_eq_true, Nat.reduceEqDiff])⟩
end
end Go.Proofs.Yticeabhilkceiaa
